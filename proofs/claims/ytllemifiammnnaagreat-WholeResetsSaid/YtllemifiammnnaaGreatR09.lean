/- Part 9 of the proof. No condition. -/
import Derived.DeepKeys5
import Derived.Laws.IdiomRangeMap
import Derived.Test.YtllemifiammnnaaGreatR04
import Derived.Test.YtllemifiammnnaaGreatR06
import Derived.Test.YtllemifiammnnaaGreatR03
import Derived.Test.YtllemifiammnnaaGreatR07
set_option linter.unusedVariables false
set_option linter.unusedSimpArgs false
set_option maxRecDepth 100000
set_option maxHeartbeats 4000000
namespace Go.Proofs.YtllemifiammnnaaGreat
namespace Y
open Go Go.RowKit Go.Sort
theorem laidOut:laidOutB Tryz.prog=true:=by kernel_rfl
theorem rtLaw:WideMaps.KeyLaw Tryz.prog 229:=deep_law_gate laidOut (nLe (by kernel_rfl)) (Nat.lt_of_lt_of_le (Nat.lt_succ_self _) (nLe (by kernel_rfl))) (by kernel_rfl) (by kernel_rfl)
def rtVal(r:W.Rt):Value:=.agg ⟨valL (rtC r)⟩
structure RtB(r:W.Rt):Prop where
 n:W.I64 r.n
 s:∀ i,W.I64 (r.seg.getD i 0)
theorem wf64{x:Int}(h:W.I64 x):(Lit.int .i64 x).wf=true:=by
 unfold W.I64 at h
 simp [Lit.wf,IntKind.min,IntKind.max,IntKind.bits,IntKind.signed]
 omega
theorem key_int(d:Nat){x:Int}(h:W.I64 x):Tryz.prog.keyLits (d+1) 3 [.int .i64 x]=some [.int .i64 x]:=by
 have e:Tryz.prog.underlying 3=some (.int .i64):=by kernel_rfl
 simp [Program.keyLits,e,wf64 h]
theorem key_arr(d:Nat){x0 x1 x2 x3 x4 x5 x6 x7 x8 x9 x10 x11:Int}(h:W.I64 x0∧W.I64 x1∧W.I64 x2∧W.I64 x3∧W.I64 x4∧W.I64 x5∧W.I64 x6∧W.I64 x7∧W.I64 x8∧W.I64 x9∧W.I64 x10∧W.I64 x11) :
  ∃ l,Tryz.prog.keyLits (d+2) 227 [.int .i64 x0,.int .i64 x1,.int .i64 x2,.int .i64 x3,.int .i64 x4,.int .i64 x5,.int .i64 x6,.int .i64 x7,.int .i64 x8,.int .i64 x9,.int .i64 x10,.int .i64 x11]=some l:=by
 obtain⟨h0,h1,h2,h3,h4,h5,h6,h7,h8,h9,h10,h11⟩:=h
 have e:Tryz.prog.underlying 227=some (.array 12 3):=by kernel_rfl
 have e2:Tryz.prog.cellsOf 227=12:=by kernel_rfl
 have e3:Tryz.prog.cellsOf 3=1:=by kernel_rfl
 have er:List.range 12=[0,1,2,3,4,5,6,7,8,9,10,11]:=rfl
 have k:=fun x (h:W.I64 x)=>key_int d h
 rw [show d+2=(d+1)+1 from rfl,Program.keyLits.eq_def]
 simp only [e,e2,e3,er,List.length_cons,List.length_nil,if_true,List.mapM_cons,List.mapM_nil,Nat.mul_one,List.drop_zero,List.drop_succ_cons,List.take_succ_cons,List.take_zero]
 rw [k _ h0,k _ h1,k _ h2,k _ h3,k _ h4,k _ h5,k _ h6,k _ h7,k _ h8,k _ h9,k _ h10,k _ h11]
 exact⟨_,rfl⟩
theorem rtKey{r:W.Rt}(h:RtB r):∃ l,keyOf Tryz.prog 229 (rtVal r)=some l:=by
 have e : ∃ fs, Tryz.prog.underlying 229 = some (.struct fs) ∧ fs.toList.map (fun f => (f.type, f.offset)) = [(3, 0), (227, 1)] ∧ fs.all (fun f => f.name != "_") = true := by
  refine⟨Tryz.prog.fieldsOf 229,by kernel_rfl,by kernel_rfl,by kernel_rfl⟩
 obtain⟨fs,e1,e2,e3⟩:=e
 have e4:Tryz.prog.keyType 229=true:=by kernel_rfl
 have e5:Tryz.prog.cellsOf 229=13:=by kernel_rfl
 have e6:Tryz.prog.cellsOf 3=1:=by kernel_rfl
 have e7:Tryz.prog.cellsOf 227=12:=by kernel_rfl
 obtain⟨d,hd⟩:∃ d,Tryz.prog.types.size+1=d+4:=by
  have:3≤Tryz.prog.types.size:=nLe (by kernel_rfl)
  exact⟨Tryz.prog.types.size-3,by omega⟩
 have hf:(rtVal r).formed Tryz.prog 229=true:=by
  simp [rtVal,Value.formed,e1,e5,valL]
 obtain⟨l,hl⟩:=key_arr (d+1) (x0:=r.seg.getD 0 0) (x1:=r.seg.getD 1 0) (x2:=r.seg.getD 2 0) (x3:=r.seg.getD 3 0) (x4:=r.seg.getD 4 0) (x5:=r.seg.getD 5 0) (x6:=r.seg.getD 6 0) (x7:=r.seg.getD 7 0) (x8:=r.seg.getD 8 0) (x9:=r.seg.getD 9 0) (x10:=r.seg.getD 10 0) (x11:=r.seg.getD 11 0) ⟨h.s 0,h.s 1,h.s 2,h.s 3,h.s 4,h.s 5,h.s 6,h.s 7,h.s 8,h.s 9,h.s 10,h.s 11⟩
 have hk:∃ L,Tryz.prog.keyLits (d+4) 229 (rtVal r).cells.toList=some L:=by
  obtain⟨f0,f1,hfs⟩:∃ f0 f1,fs.toList=[f0,f1]:=by
   have hl2:=congrArg List.length e2
   rw [List.length_map] at hl2
   match fs.toList,hl2 with
   |[f0,f1],_=>exact⟨f0,f1,rfl⟩
  ·rw [hfs] at e2
   simp only [List.map_cons,List.map_nil,List.cons.injEq,Prod.mk.injEq,and_true] at e2
   obtain⟨⟨a1,a2⟩,a3,a4⟩:=e2
   rw [show d+4=(d+3)+1 from rfl,Program.keyLits.eq_def]
   simp only [e1,rtVal,Value.cells,valL,val,e5]
   rw [if_pos ⟨by rfl,e3⟩,hfs]
   have k1:=key_int (d+2) h.n
   simp only [List.mapM_cons,List.mapM_nil,a1,a2,a3,a4,e6,e7,List.drop_zero,List.take_succ_cons,List.take_zero,List.drop_succ_cons,List.take_nil]
   rw [k1,hl]
   exact⟨_,rfl⟩
 obtain⟨L,hL⟩:=hk
 unfold keyOf
 simp only [e1,e4,hf,hd,hL,Bool.and_self,if_true,Option.map_some]
 exact⟨_,rfl⟩
section
variable{N:Nat}{E:En}{tm:Tm}{own:Ow}{S S':Nat→Prop}{ids:List Loc}{a:Act}{n n':World}
theorem Sim.newO(h:Sim N E tm own S ids a n)(ob:Obj)(P:Nat→Obj→Prop)(hP:P n.heap.size ob) :
  Sim N E tm (own++[.obj P]) S (ids++[Loc.at_ n.heap.size]) a (n.alloc ob):=by
 have hp:Past n (n.alloc ob):=bself n _
 have hnew:=heap_alloc_new n ob
 have hlt:n.heap.size<(n.alloc ob).heap.size:=(Array.getElem?_eq_some_iff.1 hnew).1
 refine(h.past hp).push ⟨n.heap.size,ob,rfl,hnew,hP⟩ (fun b hb=>?_) (fun j o' L' b h1 h2 h3 h4 e=>?_)
 ·obtain rfl:n.heap.size=b:=by simpa [Loc.at_] using hb
  exact⟨fun hS=>by have:=h.slt _ hS;omega,hlt,h.fr.size⟩
 ·obtain rfl:n.heap.size=b:=by simpa [Loc.at_] using e
  have:=h.lt h1 h2 h3 h4
  omega
theorem Sim.updO(h:Sim N E tm own S ids a n){i b:Nat}{P P':Nat→Obj→Prop}{o':Obj}(hi:nth own i=some (.obj P))(hb:nth ids i=some (Loc.at_ b))(hos:n'.os=n.os)(htp:n'.tape=n.tape)(hout:n'.output=n.output)(hsz:n.heap.size≤n'.heap.size)
  (hbl:∀ k,k<n.heap.size→k≠b→n'.heap[k]?=n.heap[k]?) (hS1:∀ b,S b→S' b) (hS2:∀ b,S' b→b<n.heap.size→S b) (hS3:∀ b,S' b→b<n'.heap.size) (ho:n'.heap[b]?=some o') (hP:P' b o') :
  Sim N E tm (own.set i (.obj P')) S' ids a n':=by
 have hil:=nth_lt hi
 obtain⟨q1,q2,q3⟩:=h.noS i _ _ b hi rfl hb rfl
 have hk:Kp S S' n n':=⟨hsz,hS1,fun k hk hS=>hbl k hk (fun e=>q1 (e ▸ hS))⟩
 have key:∀ {j:Nat} {x:OB},nth (own.set i (.obj P')) j=some x→(j≠i∧nth own j=some x)∨(j=i∧x=.obj P'):=fun {j x} hx=>by
  by_cases e:i=j
  ·subst e;rw [nth_set_self hil] at hx;exact .inr ⟨rfl,(Option.some.inj hx).symm⟩
  ·rw [nth_set_ne e] at hx;exact .inl ⟨fun e'=>e e'.symm,hx⟩
 have al:∀ {j:Nat} {x:OB},nth (own.set i (.obj P')) j=some x→alive x=true→∃ y,nth own j=some y∧alive y=true:=fun {j x} hx ax=>by
  rcases key hx with ⟨_,hx⟩|⟨rfl,rfl⟩
  ·exact⟨x,hx,ax⟩
  ·exact⟨_,hi,rfl⟩
 exact {
  size:=h.size
  defers:=h.defers
  sl:=fun t v hv=>by obtain⟨V,g1,g2⟩:=h.sl t v hv;exact⟨V,g1,g2.kp hk⟩
  len:=by simp [h.len]
  live:=fun j x L hx' hL=>by
   rcases key hx' with ⟨hne,hx'⟩|⟨rfl,rfl⟩
   ·cases ho':alive x with
    |false=>cases x<;>first|trivial|cases ho'
    |true =>
     refine(h.live j x L hx' hL).kp hk fun c hc=>?_
     have hlt:=h.lt hx' ho' hL hc
     exact⟨hbl c hlt (fun e=>hne (h.dist j i x _ L _ b hx' hi ho' rfl hL hb (e ▸ hc) rfl)),hlt⟩
   ·rw [hb] at hL;obtain rfl:=Option.some.inj hL;exact⟨b,o',rfl,ho,hP⟩
  dist:=fun j k x y L1 L2 c hx hy ax ay=>by
   obtain⟨x',hx',ax'⟩:=al hx ax
   obtain⟨y',hy',ay'⟩:=al hy ay
   exact h.dist j k x' y' L1 L2 c hx' hy' ax' ay'
  noS:=fun j x L c hx ax hL e=>by
   obtain⟨x',hx',ax'⟩:=al hx ax
   obtain⟨g1,g2,g3⟩:=h.noS j x' L c hx' ax' hL e
   exact⟨fun hS=>g1 (hS2 c hS g2),Nat.lt_of_lt_of_le g2 hsz,g3⟩
  pre:=h.pre
  slt:=hS3
  sold:=fun c hc hlt=>h.sold c (hS2 c hc (Nat.lt_of_lt_of_le hlt h.fr.size)) hlt
  snew:=fun c hc=>hS1 c (h.snew c hc)
  fr:=⟨hos.trans h.fr.os,htp.trans h.fr.tape,hout.trans h.fr.output,Nat.le_trans h.fr.size hsz,fun k hk hG =>
   (hbl k (Nat.lt_of_lt_of_le hk h.fr.size) (fun e=>by subst e;exact q3.elim (fun h1=>by omega) (fun h=>hG ⟨i,h⟩))).trans (h.fr.block k hk hG)⟩ }
end
def KeysAre(l:List W.Rt)(es:Array MapEntry)(clock:Nat):Prop:=MapKept.Stamped es clock∧es.toList.map (·.key)=l.map rtVal
def MapI(l:List W.Rt):Nat→Obj→Prop:=fun _ o=>∃ es clock,o=.map es clock∧KeysAre l es clock
theorem setBlock_get(w:World){b:Nat}(o:Obj)(h:b<w.heap.size):(ChangeMaps.setBlock w b o).heap[b]?=some o:=by
 simp [ChangeMaps.setBlock,h]
theorem setBlock_ne(w:World){b k:Nat}(o:Obj)(h:k≠b):(ChangeMaps.setBlock w b o).heap[k]?=w.heap[k]?:=by
 simp only [ChangeMaps.setBlock];rw [Array.getElem?_setIfInBounds_ne (fun e=>h e.symm)]
theorem setBlock_size(w:World)(b:Nat)(o:Obj):(ChangeMaps.setBlock w b o).heap.size=w.heap.size:=by simp [ChangeMaps.setBlock]
section
variable{P:Program}{N:Nat}{E:En}{o:Oper}{tm:Tm}{own:Ow}{K:Tm→Ow→Prop}
theorem Sim.obj{P:Nat→Obj→Prop}{S:Nat→Prop}{ids:List Loc}{a:Act}{n:World}(h:Sim N E tm own S ids a n){j:Nat}(hb:nth own j=some (.obj P)):∃ b ob,nth ids j=some (Loc.at_ b)∧n.heap[b]?=some ob∧P b ob:=by
 obtain⟨L,hL⟩:=nth_of_lt (l:=ids) (i:=j) (by rw [h.len];exact nth_lt hb)
 obtain⟨b,ob,e,h1,h2⟩:=h.live j _ L hb hL
 subst e
 exact⟨b,ob,hL,h1,h2⟩
theorem OpAt.mkMap{t:TypeId}(ho:o.op=.makeMap t none)(hK:put N tm o.dst (.mref own.length) fun tm=>K tm (own++[.obj (MapI [])])):OpAt P N E o K tm own:=by
 refine⟨fun S ids a n hs Q=>?_⟩
 have h1:=hs.newO (.map #[] 0) (MapI []) ⟨#[],0,rfl,⟨by simp [MapKept.Stamped],by simp⟩⟩
 obtain⟨tm',k1,k2⟩:=put_sound hK
 have hv:R S (n.alloc (.map #[] 0)) (ids++[Loc.at_ n.heap.size]) (.mref own.length) (.map (some n.heap.size)):=⟨n.heap.size,by rw [← hs.len,nth_append_new],rfl⟩
 have:=k2 E _ S _ a (n.alloc (.map #[] 0)) _ h1 hv
 have hr:(execOp a.eval o).run P n=.ok (.value (.map (some n.heap.size))) (n.alloc (.map #[] 0)):=by
  unfold execOp
  simp only [ho]
  rfl
 unfold Oper.wp
 rw [hr]
 exact⟨tm',_,S,_,k1,this⟩
theorem OpAt.mapUp{t e:TypeId}{x y z:Operand}{j:Nat}{l:List W.Rt}{r:W.Rt}{kk:IntKind}{q:Int}(ho:o.op=.mapUpdate t x y z)(ht:Tryz.prog.underlying t=some (.map 229 e))(hd:o.dst=none)(hx:ev tm x fun v=>v=.mref j)(hy:ev tm y fun v=>v=.agg (rtC r))(hz:ev tm z fun v=>v=.int kk q)(hb:nth own j=some (.obj (MapI l)))(hl:∀ x∈l,RtB x)(hr:RtB r)
  (hK:∀ l',(rtVal r∈l.map rtVal∧l'=l)∨(¬ rtVal r∈l.map rtVal∧l'=l++[r])→K tm (own.set j (.obj (MapI l')))):OpAt Tryz.prog N E o K tm own:=by
 refine⟨fun S ids a n hs Q=>?_⟩
 obtain⟨_,rfl,h1⟩:=ev_sound hx
 obtain⟨_,rfl,h2⟩:=ev_sound hy
 obtain⟨_,rfl,h3⟩:=ev_sound hz
 obtain⟨b,ob,g1,g2,es,clock,rfl,hst,hkeys⟩:=hs.obj hb
 obtain⟨b',g3,e1⟩:∃ b,nth ids j=some (Loc.at_ b)∧a.eval x=.map (some b):=h1 S n ids a hs.sl
 obtain rfl:=Loc.at_inj (Option.some.inj (g1.symm.trans g3))
 have e2:a.eval y=rtVal r:=(flat_iff (a:=.agg (rtC r)) rfl).1 ((R_pu rfl).1 (h2 S n ids a hs.sl))
 have e3:=(h3 S n ids a hs.sl).int
 obtain⟨kl,hkey⟩:=rtKey hr
 have hblt:b<n.heap.size:=(Array.getElem?_eq_some_iff.1 g2).1
 have hall:∀ x∈es.toList,∃ l,keyOf Tryz.prog 229 x.key=some l:=fun x hx=>by
  have:x.key∈es.toList.map (·.key):=List.mem_map.2 ⟨x,hx,rfl⟩
  rw [hkeys] at this
  obtain⟨r',hr',e⟩:=List.mem_map.1 this
  rw [← e]
  exact rtKey (hl r' hr')
 have done:∀ es' clock' l',KeysAre l' es' clock'→((rtVal r∈l.map rtVal∧l'=l)∨(¬ rtVal r∈l.map rtVal∧l'=l++[r]))→(Instr.mapUpdate t (.map (some b)) (rtVal r) (.int kk q)).run Tryz.prog n=.ok () (ChangeMaps.setBlock n b (.map es' clock'))→o.wp Tryz.prog a n (After N E K) Q:=fun es' clock' l' hkk hll hrun=>by
  have hrr:(execOp a.eval o).run Tryz.prog n=.ok .skip (ChangeMaps.setBlock n b (.map es' clock')):=by
   unfold execOp
   simp only [ho,e1,e2,e3,Sem.run_bind,hrun]
   rfl
  unfold Oper.wp
  rw [hrr]
  refine⟨tm,_,S,ids,hK l' hll,?_⟩
  rw [hd]
  exact hs.updO (S':=S) (n':=ChangeMaps.setBlock n b (.map es' clock')) hb g1 rfl rfl rfl (by rw [setBlock_size];exact Nat.le_refl _) (fun k _ hk=>setBlock_ne n _ hk) (fun _ h=>h) (fun _ h _=>h) (fun c hc=>by rw [setBlock_size];exact hs.slt c hc) (P':=MapI l') (setBlock_get n _ hblt) ⟨es',clock',rfl,hkk⟩
 rcases rtLaw.find n hkey es.toList hall with ⟨h4,h5⟩|⟨p,e0,h4,h5,h6⟩
 ·refine done (es.push ⟨rtVal r,.int kk q,clock⟩) (clock+1) (l++[r]) ⟨MapKept.stamped_push hst h5,by simp [hkeys]⟩ (.inr ⟨fun hm=>?_,rfl⟩) ?_
  ·rw [← hkeys] at hm
   obtain⟨x,hx,e⟩:=List.mem_map.1 hm
   exact h5 x hx e
  ·simp [Instr.mapUpdate,run_underlying ht,MapKept.run_getObj_map g2,rtLaw.check n false hkey,h4,MapKept.run_setObj_map _ g2,Result.andThen,ChangeMaps.setBlock]
 ·have hj:es[p]?=some e0:=by simpa using h5
  have hmem:rtVal r∈l.map rtVal:=by
   rw [← hkeys,← h6]
   exact List.mem_map.2 ⟨e0,List.mem_of_getElem? h5,rfl⟩
  have hkeyf:∀ e',es[p]?=some e'→({ e' with key:=rtVal r,val:=.int kk q }:MapEntry).key=e'.key:=fun e' he'=>by rw [hj] at he';cases he';exact h6.symm
  refine done (es.modify p (fun e'=>{ e' with key:=rtVal r,val:=.int kk q })) clock l ⟨MapKept.stamped_modify hst _ _ (fun _ _=>rfl) (fun e' _ he'=>hkeyf e' he'),?_⟩ (.inl ⟨hmem,rfl⟩) ?_
  ·rw [← hkeys,Array.toList_modify]
   apply List.ext_getElem?
   intro k
   rw [List.getElem?_map,List.getElem?_map,List.getElem?_modify]
   by_cases hk:p=k
   ·subst hk
    simp [h5,h6]
   ·simp [hk]
  ·simp [Instr.mapUpdate,run_underlying ht,MapKept.run_getObj_map g2,rtLaw.check n false hkey,h4,hj,h6,rtLaw.stays n hkey,MapKept.run_setObj_map _ g2,Result.andThen,ChangeMaps.setBlock]
theorem QAt.lenMap{t k e:TypeId}{x:Operand}{j:Nat}{l:List W.Rt}{P:Program}{K:AV→Prop}(ho:o.op=.call { callee:=.builtin .len,args:=#[x],argTypes:=#[t] })(ht:P.underlying t=some (.map k e))(hx:ev tm x fun v=>v=.mref j)(hb:nth own j=some (.obj (MapI l)))(hK:K (.int .i64 (l.length:Int))):QAt P o tm own K:=by
 refine⟨_,hK,fun N E S ids a n hs=>⟨.int .i64 (l.length:Int),rfl,fun w hp=>?_⟩⟩
 obtain⟨_,rfl,h1⟩:=ev_sound hx
 obtain⟨b,ob,g1,g2,es,clock,rfl,hst,hkeys⟩:=hs.obj hb
 obtain⟨b',g3,e1⟩:∃ b,nth ids j=some (Loc.at_ b)∧a.eval x=.map (some b):=h1 S n ids a hs.sl
 obtain rfl:=Loc.at_inj (Option.some.inj (g1.symm.trans g3))
 have hblt:b<n.heap.size:=(Array.getElem?_eq_some_iff.1 g2).1
 have hsz:es.size=l.length:=by
  have:=congrArg List.length hkeys
  simpa using this
 have g4:w.heap[b]?=some (.map es clock):=by rw [hp.block b hblt];exact g2
 unfold execOp
 simp only [ho,resolve,invoke,builtin,Sem.run_bind,Sem.run_pure,Result.andThen_ok,List.map_toArray,List.map_cons,List.map_nil,e1]
 simp [Builtin.len_,run_underlying ht,MapKept.run_getObj_map g4,goInt,hsz]
def MapE(bm:Nat)(es:Array MapEntry)(clock:Nat):Nat→Obj→Prop:=fun b o=>b=bm∧o=.map es clock
def ItE(bm:Nat)(es:Array MapEntry)(is:List Nat)(clock:Nat):Nat→Obj→Prop:=fun _ o=>o=.mapIter (some bm) clock ⟨is.map fun i=>(es.getD i default).born⟩ clock
theorem OpAt.range{t k e:TypeId}{x:Operand}{j:Nat}{l:List W.Rt}{P:Program}(ho:o.op=.range t x)(ht:P.underlying t=some (.map k e))(hx:ev tm x fun v=>v=.mref j)(hb:nth own j=some (.obj (MapI l)))
  (hK:∀ bm es clock,KeysAre l es clock→put N tm o.dst (.own own.length 0) fun tm=>K tm (own.set j (.obj (MapE bm es clock))++[.obj (ItE bm es [] clock)])):OpAt P N E o K tm own:=by
 refine⟨fun S ids a n hs Q=>?_⟩
 obtain⟨_,rfl,h1⟩:=ev_sound hx
 obtain⟨b,ob,g1,g2,es,clock,rfl,hst,hkeys⟩:=hs.obj hb
 obtain⟨b',g3,e1⟩:∃ b,nth ids j=some (Loc.at_ b)∧a.eval x=.map (some b):=h1 S n ids a hs.sl
 obtain rfl:=Loc.at_inj (Option.some.inj (g1.symm.trans g3))
 have hs1:=hs.updO (S':=S) (n':=n) hb g1 rfl rfl rfl (Nat.le_refl _) (fun k _ _=>rfl) (fun _ h=>h) (fun _ h _=>h) hs.slt (P':=MapE b es clock) g2 ⟨rfl,rfl⟩
 have hs2:=hs1.newO (.mapIter (some b) clock #[] clock) (ItE b es [] clock) rfl
 obtain⟨tm',k1,k2⟩:=put_sound (hK b es clock ⟨hst,hkeys⟩)
 have hv:R S (n.alloc (.mapIter (some b) clock #[] clock)) (ids++[Loc.at_ n.heap.size]) (.own own.length 0) (.pointer (some ⟨n.heap.size,0,none⟩)):=⟨n.heap.size,by rw [← hs.len,nth_append_new],rfl⟩
 have:=k2 E _ S _ a _ _ hs2 hv
 unfold Oper.wp execOp
 simp only [ho,e1,Sem.run_bind,run_range_map n t k e b es clock ht g2,Result.andThen_ok,Sem.run_pure]
 exact⟨tm',_,S,_,k1,this⟩
theorem run_next_at{P:Program}(w:World)(ty:TypeId)(bi bm since c0:Nat)(seen:Array Nat)(es:Array MapEntry)(clock:Nat)(hi:w.heap[bi]?=some (.mapIter (some bm) since seen c0))(hb:w.heap[bm]?=some (.map es clock))(hold:∀ x∈es.toList,x.born<since)(hsc:since≤c0) :
  ((leftOf es seen).size=0∧(Instr.next (.pointer (some ⟨bi,0,none⟩)) false ty).run P w=.ok (.tuple #[.bool false]) w) ∨
  ∃ e∈(leftOf es seen).toList,∃ w1:World,(w1=w∨w1=w.drew)∧(Instr.next (.pointer (some ⟨bi,0,none⟩)) false ty).run P w=.ok (.tuple #[.bool true,e.key,e.val]) (ChangeMaps.setBlock w1 bi (.mapIter (some bm) since (seen.push e.born) clock)):=by
 have hilt:bi<w.heap.size:=(Array.getElem?_eq_some_iff.1 hi).1
 simp only [Instr.next,getObj,Sem.run_bind,Sem.run,hi,hb,Result.andThen,next_test_false seen es since c0 hold hsc,Bool.false_eq_true,if_false]
 unfold leftOf
 have hmem:∀ x∈(Array.filter (fun e=>!seen.contains e.born) es).toList,x.born<since:=fun x hx=>hold x (by simp at hx ⊢;exact hx.1)
 generalize Array.filter (fun e=>!seen.contains e.born) es=L at hmem ⊢
 have e1:L.filter (fun x=>decide (x.born<since))=L:=Array.filter_eq_self.2 (fun x hx=>by simpa using hmem x (by simpa using hx))
 have e2:L.filter (fun x=>decide (x.born ≥ since))=#[]:=by
  rw [Array.filter_eq_empty_iff]
  intro x hx
  have:=hmem x (by simpa using hx)
  simp
  omega
 simp only [e1,e2,Array.append_empty]
 by_cases h0:L.size=0
 ·left
  have:L=#[]:=Array.eq_empty_of_size_eq_zero h0
  subst this
  refine⟨rfl,?_⟩
  simp [choose,Sem.run,Question.forced]
 ·right
  have hne:L.isEmpty=false:=by simp [Array.isEmpty,h0]
  simp only [hne,Bool.false_eq_true,if_false,Array.empty_append,Array.size_map]
  have hch:∃ (j:Nat) (w1:World),j<L.size∧(w1=w∨w1=w.drew)∧(choose (Question.mapNext L.size)).run P w=.ok j w1:=by
   by_cases hf:L.size≤1
   ·exact⟨0,w,by omega,.inl rfl,by simp [choose,Sem.run,Question.forced,hf]⟩
   ·exact⟨_,w.drew,Nat.mod_lt _ (by omega),.inr rfl,by
     simp only [choose,Sem.run,Question.forced,decide_eq_true_eq,hf,if_false,Question.cut]
     rfl⟩
  obtain⟨j,w1,hj,hal,hrun⟩:=hch
  refine⟨L[j],by simp,w1,hal,?_⟩
  have hw1:w1.heap=w.heap:=by rcases hal with rfl|rfl<;>rfl
  have hset:∀ (o':Obj),(setObj bi o').run P w1=.ok () (ChangeMaps.setBlock w1 bi o'):=fun o'=>by
   simp only [setObj,Sem.run,hw1,hi,ChangeMaps.setBlock]
  simp only [hrun,Array.getElem?_map,Array.getElem?_eq_getElem hj,Option.map_some,Sem.run_bind,hset,Result.andThen]
  rfl
theorem left_at{es:Array MapEntry}{is:List Nat}(hn:(es.toList.map (·.born)).Nodup)(hi:∀ i∈is,i<es.size){e:MapEntry}(he:e∈(leftOf es ⟨is.map fun i=>(es.getD i default).born⟩).toList):∃ i,i<es.size∧¬ i∈is∧es.getD i default=e:=by
 unfold leftOf at he
 rw [Array.toList_filter,List.mem_filter] at he
 obtain⟨h1,h2⟩:=he
 obtain⟨i,hlt,e1⟩:=List.getElem_of_mem h1
 have hlt':i<es.size:=by simpa using hlt
 have e2:es.getD i default=e:=by simpa [Array.getD,hlt'] using e1
 refine⟨i,hlt',fun hm=>?_,e2⟩
 have:e.born∈is.map fun i=>(es.getD i default).born:=List.mem_map.2 ⟨i,hm,by rw [e2]⟩
 simp at h2
 obtain⟨j,hj1,hj2⟩:=List.mem_map.1 this
 exact h2 j hj1 (by simpa [Array.getD_eq_getD_getElem?] using hj2)
theorem left_none{es:Array MapEntry}{is:List Nat}(hn:(es.toList.map (·.born)).Nodup)(hi:∀ i∈is,i<es.size)(h:(leftOf es ⟨is.map fun i=>(es.getD i default).born⟩).size=0):∀ i,i<es.size→i∈is:=fun i hlt=>by
 have he:leftOf es ⟨is.map fun i=>(es.getD i default).born⟩=#[]:=Array.eq_empty_of_size_eq_zero h
 unfold leftOf at he
 rw [Array.filter_eq_empty_iff] at he
 have h1:=he es[i] (Array.getElem_mem hlt)
 simp at h1
 obtain⟨j,hj1,hj2⟩:=h1
 have hjl:=hi j hj1
 have:es.toList.map (·.born)=es.toList.map (·.born):=rfl
 have hij:i=j:=by
  have e3:(es.toList.map (·.born))[i]?=(es.toList.map (·.born))[j]?:=by
   rw [List.getElem?_map,List.getElem?_map]
   simp [hlt,hjl]
   simpa [Array.getD,hjl] using hj2.symm
  exact(List.getElem?_inj (by simpa using hlt) hn).1 e3
 rw [hij];exact hj1
theorem OpAt.next{x:Operand}{bl:Bool}{j k bm clock:Nat}{es:Array MapEntry}{is:List Nat}{P:Program}(ho:o.op=.next x bl)(hbl:bl=false)(hx:ev tm x fun v=>v=.own k 0)(hj:nth own j=some (.obj (MapE bm es clock)))(hk:nth own k=some (.obj (ItE bm es is clock)))(hst:MapKept.Stamped es clock)(his:∀ i∈is,i<es.size)
  (h1:(∀ i,i<es.size→i∈is)→put N tm o.dst (.tup [.bool false]) fun tm=>K tm own)
  (h2:∀ i,i<es.size→¬ i∈is→put N tm o.dst (.tup [.bool true,.raw (es.getD i default).key,.raw (es.getD i default).val]) fun tm=>K tm (own.set k (.obj (ItE bm es (is++[i]) clock)))):OpAt P N E o K tm own:=by
 subst hbl
 refine⟨fun S ids a n hs Q=>?_⟩
 obtain⟨_,rfl,g0⟩:=ev_sound hx
 obtain⟨b,ob,g1,g2,rfl,rfl⟩:=hs.obj hj
 obtain⟨bi,ob2,q1,q2,rfl⟩:=hs.obj hk
 obtain⟨b',g3,e1⟩:∃ b,nth ids k=some (Loc.at_ b)∧a.eval x=.pointer (some ⟨b,0,none⟩):=g0 S n ids a hs.sl
 obtain rfl:=Loc.at_inj (Option.some.inj (q1.symm.trans g3))
 have hbi:bi<n.heap.size:=(Array.getElem?_eq_some_iff.1 q2).1
 unfold Oper.wp execOp
 rcases run_next_at (P:=P) n o.type bi b clock clock _ es clock q2 g2 hst.1 (Nat.le_refl _) with ⟨r1,r2⟩|⟨e,r1,w1,r2,r3⟩
 ·simp only [ho,e1,Sem.run_bind,r2,Result.andThen_ok,Sem.run_pure]
  obtain⟨tm',k1,k2⟩:=put_sound (h1 (left_none hst.2.1 his r1))
  exact⟨tm',_,S,_,k1,k2 E _ S ids a n _ hs ⟨_,rfl,_,_,rfl,rfl,rfl⟩⟩
 ·simp only [ho,e1,Sem.run_bind,r3,Result.andThen_ok,Sem.run_pure]
  obtain⟨i,i1,i2,i3⟩:=left_at hst.2.1 his r1
  obtain⟨tm',k1,k2⟩:=put_sound (h2 i i1 i2)
  have hp:Past n w1:=by
   rcases r2 with rfl|rfl
   ·exact Below.refl _ _
   ·exact Past.draw n
  have hw1:w1.heap=n.heap:=by rcases r2 with rfl|rfl<;>rfl
  have hs1:=(hs.past hp).updO (S':=S) (n':=ChangeMaps.setBlock w1 bi (.mapIter (some b) clock (Array.push ⟨is.map fun i=>(es.getD i default).born⟩ e.born) clock)) hk q1 rfl rfl rfl (by rw [setBlock_size];exact Nat.le_refl _) (fun k _ hk=>setBlock_ne w1 _ hk) (fun _ h=>h) (fun _ h _=>h) (fun c hc=>by rw [setBlock_size,hw1];exact hs.slt c hc) (P':=ItE b es (is++[i]) clock) (setBlock_get w1 _ (by rw [hw1];exact hbi)) (by rw [← i3];simp [ItE])
  exact⟨tm',_,S,_,k1,k2 E _ S ids a _ _ hs1 (by rw [i3];exact⟨_,rfl,_,_,rfl,rfl,_,_,rfl,rfl,_,_,rfl,rfl,rfl⟩)⟩
theorem OpAt.entry{x:Operand}{j k bm clock i:Nat}{es:Array MapEntry}{is:List Nat}{r:W.Rt}{P:Program}(ho:o.op=.entry x)(hx:ev tm x fun v=>v=.own k 0)(hj:nth own j=some (.obj (MapE bm es clock)))(hk:nth own k=some (.obj (ItE bm es (is++[i]) clock)))(hst:MapKept.Stamped es clock)(hi:i<es.size)(hr:(es.getD i default).key=rtVal r)
  (h:put N tm o.dst (.tup [.agg (rtC r),.raw (es.getD i default).val]) fun tm=>K tm own):OpAt P N E o K tm own:=by
 refine⟨fun S ids a n hs Q=>?_⟩
 obtain⟨_,rfl,g0⟩:=ev_sound hx
 obtain⟨b,ob,g1,g2,rfl,rfl⟩:=hs.obj hj
 obtain⟨bi,ob2,q1,q2,rfl⟩:=hs.obj hk
 obtain⟨b',g3,e1⟩:∃ b,nth ids k=some (Loc.at_ b)∧a.eval x=.pointer (some ⟨b,0,none⟩):=g0 S n ids a hs.sl
 obtain rfl:=Loc.at_inj (Option.some.inj (q1.symm.trans g3))
 have hmem:es.getD i default∈es.toList:=by simp [Array.getD,hi]
 have hf:es.find? (·.born==(es.getD i default).born)=some (es.getD i default):=by rw [← Array.find?_toList];exact find_born _ es.toList hst.2.1 hmem
 have hback:(⟨(is++[i]).map fun i=>(es.getD i default).born⟩:Array Nat).back?=some (es.getD i default).born:=by simp
 have hrun:(Instr.entry (.pointer (some ⟨bi,0,none⟩))).run P n=.ok (.tuple #[(es.getD i default).key,(es.getD i default).val]) n:=by
  simp only [Instr.entry,getObj,Sem.run_bind,Sem.run,q2,g2,Result.andThen,hback,bne_self_eq_false,Bool.false_eq_true,if_false,hf]
  rfl
 obtain⟨tm',k1,k2⟩:=put_sound h
 unfold Oper.wp execOp
 simp only [ho,e1,Sem.run_bind,hrun,Result.andThen_ok,Sem.run_pure]
 refine⟨tm',_,S,_,k1,k2 E _ S ids a n _ hs ?_⟩
 rw [hr]
 exact(R_pu rfl).2 ⟨_,rfl,_,_,rfl,(flat_iff (a:=.agg (rtC r)) rfl).2 rfl,_,_,rfl,rfl,rfl⟩
end
theorem rtC_get{r:W.Rt}{k:Nat}(hk:k<12):nth (rtC r) (1+k)=some (I (r.seg.getD k 0)):=by
 rcases(show k=0∨k=1∨k=2∨k=3∨k=4∨k=5∨k=6∨k=7∨k=8∨k=9∨k=10∨k=11 by omega) with rfl|rfl|rfl|rfl|rfl|rfl|rfl|rfl|rfl|rfl|rfl|rfl<;>rfl
theorem LdAt.rt{r:W.Rt}{i off:Nat}{own:Ow}{K:AV→Prop}(hb:nth own i=some (.blk (rtC r)))(k:Nat)(ho:off=1+k*1)(hk:k<12)(hK:K (I (r.seg.getD k 0))):LdAt i off .sc own K:=by
 refine⟨_,hb,_,?_,rfl,hK⟩
 rw [ho,Nat.mul_one,rtC_get hk]
theorem rtC_set{r:W.Rt}(hl:r.seg.length=12){k:Nat}(hk:k<12)(x:Int):(rtC r).take (1+k)++([I x]++((rtC r).drop (1+k)).drop 1)=rtC ⟨r.n,r.seg.set k x⟩:=by
 obtain⟨n,s⟩:=r
 match s,hl with
 |[a0,a1,a2,a3,a4,a5,a6,a7,a8,a9,a10,a11],_ =>
  rcases(show k=0∨k=1∨k=2∨k=3∨k=4∨k=5∨k=6∨k=7∨k=8∨k=9∨k=10∨k=11 by omega) with rfl|rfl|rfl|rfl|rfl|rfl|rfl|rfl|rfl|rfl|rfl|rfl<;>rfl
theorem StAt.rt{r:W.Rt}{i off:Nat}{own:Ow}{vs:List AV}{K:Ow→Prop}(hb:nth own i=some (.blk (rtC r)))(hl:r.seg.length=12)(k:Nat)(ho:off=1+k*1)(hk:k<12)(x:Int)(hx:vs=[I x])(hK:K (own.set i (.blk (rtC ⟨r.n,r.seg.set k x⟩)))):StAt i off vs own K:=by
 subst hx
 refine⟨_,hb,?_,?_⟩
 ·rw [ho];show 1+k*1+1≤13;omega
 ·rw [ho,Nat.mul_one]
  show K (own.set i (.blk ((rtC r).take (1+k)++([I x]++((rtC r).drop (1+k)).drop 1))))
  rw [rtC_set hl hk]
  exact hK
structure NOk(t:W.Trk):Prop where
 n:t.segs.length≤1000
 w:∀ i,i<t.segs.length→(t.segs.getD i default).next.length≤1000
 x:∀ i,i<t.segs.length→∀ k,k<(t.segs.getD i default).next.length→0≤(t.segs.getD i default).next.getD k 0∧(t.segs.getD i default).next.getD k 0<t.segs.length
structure RGood(t:W.Trk)(r:W.Rt):Prop extends ROk t r where
 b:RtB r
theorem rtVal_inj{r r':W.Rt}(h1:r.seg.length=12)(h2:r'.seg.length=12)(h:rtVal r=rtVal r'):r=r':=by
 obtain⟨n,s⟩:=r
 obtain⟨n',s'⟩:=r'
 match s,h1,s',h2 with
 |[a0,a1,a2,a3,a4,a5,a6,a7,a8,a9,a10,a11],_,[b0,b1,b2,b3,b4,b5,b6,b7,b8,b9,b10,b11],_ =>
  simp [rtVal,valL,val] at h
  simp [h]
theorem last_ok{t:W.Trk}{r:W.Rt}(h:ROk t r):0≤r.seg.getD (r.n-1).toNat 0∧r.seg.getD (r.n-1).toNat 0<t.segs.length:=by
 have h1:=h.lo
 have h2:=h.hi
 have hl:=path_len h.len h1 h2
 have h3:=h.p (r.n-1).toNat (by omega)
 have e:r.path.getD (r.n-1).toNat 0=r.seg.getD (r.n-1).toNat 0:=by
  unfold W.Rt.path
  rw [List.getD_eq_getElem?_getD,List.getElem?_take,if_pos (by omega),List.getD_eq_getElem?_getD]
 rw [e] at h3
 exact h3
theorem next_ok{t:W.Trk}{r:W.Rt}(hn:NOk t)(h:RGood t r)(h12:r.n<12){x:Int}(hx:0≤x∧x<t.segs.length):RGood t ⟨r.n+1,r.seg.set r.n.toNat x⟩:=by
 have h1:=h.lo
 have hl:=path_len h.len h.lo h.hi
 refine⟨⟨by simp [h.len],by show 1≤r.n+1;omega,by show r.n+1≤12;omega,fun k hk=>?_⟩,⟨?_,fun i=>?_⟩⟩
 ·have hp:(⟨r.n+1,r.seg.set r.n.toNat x⟩:W.Rt).path=(r.seg.set r.n.toNat x).take (r.n.toNat+1):=by
   unfold W.Rt.path
   congr 1
   show (min (max (r.n+1) 0) 12).toNat=_
   omega
  rw [hp] at hk ⊢
  have hk2:k<r.n.toNat+1:=by simp at hk;omega
  rw [List.getD_eq_getElem?_getD,List.getElem?_take,if_pos hk2,List.getElem?_set]
  by_cases he:r.n.toNat=k
  ·rw [if_pos he,if_pos (by rw [h.len];omega)]
   exact hx
  ·rw [if_neg he]
   have h3:=h.p k (by omega)
   unfold W.Rt.path at h3
   rw [List.getD_eq_getElem?_getD,List.getElem?_take,if_pos (by omega)] at h3
   exact h3
 ·have:=h.hi
  show W.I64 (r.n+1)
  unfold W.I64;omega
 ·rw [List.getD_eq_getElem?_getD,List.getElem?_set]
  by_cases he:r.n.toNat=i
  ·rw [if_pos he]
   split
   ·have:=hn.n
    simp only [Option.getD_some]
    unfold W.I64;omega
   ·simp [W.I64]
  ·rw [if_neg he,← List.getD_eq_getElem?_getD]
   exact h.b.s i
theorem addRt_good{t:W.Trk}{r:W.Rt}{l:List W.Rt}(hr:RGood t r)(hl:∀ x∈l,RGood t x):∀ x∈W.addRt r l,RGood t x:=by
 intro x hx
 unfold W.addRt at hx
 split at hx
 ·exact hl x hx
 ·rcases List.mem_append.1 hx with h|h
  ·exact hl x h
  ·simp at h;subst h;exact hr
theorem growF_good{t:W.Trk}(p:W.Sp)(hn:NOk t):∀ (f:Nat) (r:W.Rt) (e:Int) (st:List W.Rt×Int),RGood t r→(∀ x∈st.1,RGood t x)→∀ x∈(W.growF t p f r e st).1,RGood t x
 |0,r,e,st,hr,h=>h
 |f+1,r,e,st,hr,h=>by
  unfold W.growF
  split
  ·exact h
  ·split
   ·dsimp only
    split
    ·exact addRt_good hr h
    ·exact h
   ·split
    ·exact h
    ·next h12 =>
     have hlt:r.n<12:=by have:=hr.hi;omega
     have hx:∀ x∈(t.seg r.last).next,0≤x∧x<t.segs.length:=fun x hx=>by
      have hlo:=last_ok hr.toROk
      obtain⟨k,hk,e⟩:=List.getElem_of_mem hx
      have:=hn.x r.last.toNat (by unfold W.Rt.last;omega) k hk
      rw [show (t.segs.getD r.last.toNat default).next.getD k 0=x by rw [← e,List.getD_eq_getElem?_getD];rw [show (t.segs.getD r.last.toNat default)=t.seg r.last from rfl,List.getElem?_eq_getElem hk];rfl] at this
      exact this
     generalize (t.seg r.last).next=nx at hx
     have key:∀ (nx:List Int) (st:List W.Rt×Int),(∀ x∈nx,0≤x∧x<t.segs.length)→(∀ x∈st.1,RGood t x)→∀ x∈(nx.foldl (fun st x=>W.growF t p f ⟨r.n+1,r.seg.set r.n.toNat x⟩ (e+t.len x) st) st).1,RGood t x:=fun nx=>by
      induction nx with
      |nil=>exact fun st hx h=>h
      |cons x nx ih =>
       intro st hx h
       rw [List.foldl_cons]
       exact ih _ (fun y hy=>hx y (List.mem_cons_of_mem _ hy)) (growF_good p hn f _ _ _ (next_ok hn hr hlt (hx x List.mem_cons_self)) h)
     exact key nx st hx h
abbrev growerC(t:W.Trk)(p:W.Sp)(e:Int):List AV:=[sgsV t.segs,gpsV t.grps,I p.lo,I p.hi,.mref 1,I e]
theorem growC(t:W.Trk)(p:W.Sp)(ht:TLen t)(hn:NOk t):∀ (f:Nat) (r:W.Rt) (e:Int) (l:List W.Rt) (err:Int),13≤(f:Int)+r.n→RGood t r→-1099511627776≤e→e≤r.n*1099511627776→(∀ x∈l,RGood t x) →
  RetO Tryz.prog 182 [.blk (growerC t p err),.obj (MapI l)] [.own 0 0,rtV r,I e] (fun v gs'=>v=.tup []∧gs'=[.blk (growerC t p (W.growF t p f r e (l,err)).2),.obj (MapI (W.growF t p f r e (l,err)).1)])
 |0,r,e,l,err,h,hr,_,_,_=>by have:=hr.hi;omega
 |f+1,r,e,l,err,hf,hr,he1,he2,hl=>by
  have hlo:=hr.lo
  have hhi:=hr.hi
  have hlast:=last_ok hr.toROk
  have hF:W.growF t p (f+1) r e (l,err)=if err≠0 then (l,err) else
   if p.hi≤e∨(t.segs.getD (r.seg.getD (r.n-1).toNat 0).toNat default).next=[] then
    (let seen:=if p.lo≤e then W.addRt r l else l;(seen,if 16<seen.length then 13 else 0))
   else if r.n=12 then (l,13)
   else (t.segs.getD (r.seg.getD (r.n-1).toNat 0).toNat default).next.foldl (fun st x=>W.growF t p f ⟨r.n+1,r.seg.set r.n.toNat x⟩ (e+t.len x) st) (l,err):=rfl
  rw [hF]
  clear hF
  obtain⟨sl,hsl⟩:∃ sl,sl=(r.seg.getD (r.n-1).toNat 0).toNat:=⟨_,rfl⟩
  have hslt:sl<t.segs.length:=by omega
  have hnx:=hn.x sl hslt
  have hnw:=hn.w sl hslt
  rw [← hsl]
  refine enterO tabOk (N:=103) (gs:=[_,_]) (args:=[_,_,_]) Tryz.func182 rfl rfl rfl (nLe rfl) (fun E hE=>?_)
  have hadd:∀ l',((rtVal r∈l.map rtVal∧l'=l)∨(¬ rtVal r∈l.map rtVal∧l'=l++[r]))→l'=W.addRt r l:=fun l' h=>by
   have hm:rtVal r∈l.map rtVal↔r∈l:=⟨fun h=>by
    obtain⟨r',h1,h2⟩:=List.mem_map.1 h
    rw [rtVal_inj hr.len (hl r' h1).len h2.symm];exact h1,fun h=>List.mem_map.2 ⟨r,h,rfl⟩⟩
   rw [hm] at h
   unfold W.addRt
   rcases h with ⟨h1,h2⟩|⟨h1,h2⟩
   ·rw [if_pos h1];exact h2
   ·rw [if_neg h1];exact h2
  by_cases hE0:err=0
  ·subst hE0
   rw [if_neg (by simp)]
   obtain⟨nx,hnxe⟩:∃ nx,nx=(t.segs.getD sl default).next:=⟨_,rfl⟩
   have hnl:(t.segs.getD (r.seg.getD (r.n-1).toNat 0).toNat default).next.length=nx.length:=by rw [hnxe,hsl]
   by_cases hd:p.hi≤e∨nx=[]
   ·rw [if_pos (by rw [← hnxe];exact hd)]
    dsimp only
    have hd2:p.hi≤e∨nx.length=0:=hd.imp id (fun h=>by rw [h];rfl)
    by_cases hlo2:p.lo≤e
    ·rw [if_pos hlo2]
     conv=>whnf
     repeat' (first|((first|refine LdAt.rt rfl _ rfl (by omega) ?_|refine Pc.sym ?_|refine OpAt.mapUp (e:=3) (r:=r) rfl (by kernel_rfl) rfl rfl rfl rfl rfl (fun x hx=>(hl x hx).b) hr.b (fun l' hl'=>?_)|refine QAt.lenMap rfl (k:=229) (e:=3) (by kernel_rfl) rfl rfl ?_|refine Br.pt (by assumption) ?_|refine Br.pf (by assumption) ?_|refine Br.pt (by omega) ?_|refine Br.nf (by omega) ?_|refine Br.ot rfl ?_|refine Ob.mk (by omega) ?_|refine Ob.mk (by unfold W.I64 at *;omega) ?_|refine Drw.loose (by kernel_rfl) ?_|refine Ix.tn (by omega) ?_);conv=>whnf)|((refine Br.d (fun h=>?_) (fun h=>?_))<;>conv=>whnf))
     all_goals first
      |(exfalso;omega)
      |(
        obtain rfl:=hadd _ hl'
        refine FinAt.asis (ars:=[]) [] RvL.nil (by simp) (by show 2≤_;simp) rfl ⟨rfl,?_⟩
        first|(rw [if_pos (by omega)];rfl)|(rw [if_neg (by omega)];rfl))
    ·rw [if_neg hlo2]
     conv=>whnf
     repeat' (first|((first|refine LdAt.rt rfl _ rfl (by omega) ?_|refine Pc.sym ?_|refine QAt.lenMap rfl (k:=229) (e:=3) (by kernel_rfl) rfl rfl ?_|refine Br.pt (by assumption) ?_|refine Br.pf (by assumption) ?_|refine Br.pt (by omega) ?_|refine Br.nf (by omega) ?_|refine Br.ot rfl ?_|refine Ob.mk (by omega) ?_|refine Ob.mk (by unfold W.I64 at *;omega) ?_|refine Drw.loose (by kernel_rfl) ?_|refine Ix.tn (by omega) ?_);conv=>whnf)|((refine Br.d (fun h=>?_) (fun h=>?_))<;>conv=>whnf))
     all_goals first
      |(exfalso;omega)
      |(
        refine FinAt.asis (ars:=[]) [] RvL.nil (by simp) (by show 2≤_;simp) rfl ⟨rfl,?_⟩
        first|(rw [if_pos (by omega)];rfl)|(rw [if_neg (by omega)];rfl))
   ·rw [if_neg (by rw [← hnxe];exact hd)]
    have hd2:¬ p.hi≤e∧¬ nx.length=0:=⟨fun h=>hd (.inl h),fun h=>hd (.inr (List.length_eq_zero_iff.1 h))⟩
    by_cases h12:r.n=12
    ·rw [if_pos h12]
     conv=>whnf
     repeat' ((first|refine LdAt.rt rfl _ rfl (by omega) ?_|refine Pc.sym ?_|refine Br.pt (by assumption) ?_|refine Br.pf (by omega) ?_|refine Br.nf (by omega) ?_|refine Ob.mk (by omega) ?_|refine Ob.mk (by unfold W.I64 at *;omega) ?_|refine Drw.loose (by kernel_rfl) ?_|refine Ix.tn (by omega) ?_);conv=>whnf)
     all_goals first
      |(exfalso;omega)
      |refine FinAt.asis (ars:=[]) [] RvL.nil (by simp) (by show 2≤_;simp) rfl ⟨rfl,rfl⟩
    ·rw [if_neg h12]
     rw [← hnxe]
     obtain⟨step,hstep⟩:∃ step:List W.Rt×Int→Int→List W.Rt×Int,step=fun st x=>W.growF t p f ⟨r.n+1,r.seg.set r.n.toNat x⟩ (e+t.len x) st:=⟨_,rfl⟩
     rw [← hstep]
     conv=>whnf
     repeat' ((first|refine LdAt.rt rfl _ rfl (by omega) ?_|refine Pc.sym ?_|refine Br.pf (by assumption) ?_|refine Br.pf (by omega) ?_|refine Br.nf (by omega) ?_|refine Ob.mk (by omega) ?_|refine Ob.mk (by unfold W.I64 at *;omega) ?_|refine Drw.loose (by kernel_rfl) ?_|refine Ix.tn (by omega) ?_);conv=>whnf)
     all_goals first
      |(exfalso;omega)
      |skip
     refine LoopAt.rule tabOk [(0,_),(2,_),(4,_),(76,_),(77,_)] (fun (i:Nat×(List W.Rt×Int)×W.Rt)=>[(78,.int .i64 (i.1:Int))]) (fun (i:Nat×(List W.Rt×Int)×W.Rt)=>[.blk (growerC t p i.2.1.2),.obj (MapI i.2.1.1),.blk (rtC i.2.2)]) (fun (i:Nat×(List W.Rt×Int)×W.Rt)=>i.1≤nx.length∧i.2.1=(nx.take i.1).foldl step (l,0)∧(i.2.2.n=r.n+1∧i.2.2.seg.length=12∧∀ x,i.2.2.seg.set r.n.toNat x=r.seg.set r.n.toNat x)∧∀ x∈i.2.1.1,RGood t x) (fun (i:Nat×(List W.Rt×Int)×W.Rt)=>nx.length-i.1) (0,(l,0),⟨r.n+1,r.seg⟩) (by trivial) ⟨by simp,rfl,⟨rfl,hr.len,fun _=>rfl⟩,hl⟩ (by trivial) (by trivial) (fun _=>⟨rfl,rfl,rfl,by simp [hE]⟩) (fun i hk=>?_)
     obtain⟨k,⟨lk,ek⟩,rr⟩:=i
     obtain⟨hk,hst,⟨hrn,hsgl,hsg⟩,hlk⟩:=hk
     dsimp only at hk hst hrn hsgl hsg hlk ⊢
     have hkw:k≤1000:=by rw [← hnxe] at hnw;omega
     by_cases hlt:k<nx.length
     ·have hx:=hnx k (by rw [← hnxe];exact hlt)
      rw [hsl] at hx
      have hseglen:t.len ((t.segs.getD (r.seg.getD (r.n-1).toNat 0).toNat default).next.getD k 0)=(t.segs.getD ((t.segs.getD (r.seg.getD (r.n-1).toNat 0).toNat default).next.getD k 0).toNat default).length:=rfl
      have hxe:(t.segs.getD (r.seg.getD (r.n-1).toNat 0).toNat default).next.getD k 0=nx.getD k 0:=by rw [hnxe,hsl]
      have htl:=ht ((t.segs.getD (r.seg.getD (r.n-1).toNat 0).toNat default).next.getD k 0).toNat (by omega)
      conv=>whnf
      repeat' ((first|refine Pc.sym ?_|refine StAt.rt rfl hsgl _ rfl (by omega) _ rfl ?_|refine Drw.lateP tabOk [0,1,2,3,4,5,6,7,8,9,10,11,12] [] [13] (by kernel_rfl) (by kernel_rfl) ?_|refine Br.pt (by omega) ?_|refine Ob.mk (by omega) ?_|refine Ob.mk (by unfold W.I64 at *;omega) ?_|refine Ix.nat _ ?_|refine Ix.tn (by omega) ?_);conv=>whnf)
      have hset:(⟨rr.n,rr.seg.set (rr.n-1).toNat ((t.segs.getD (r.seg.getD (r.n-1).toNat 0).toNat default).next.getD k 0)⟩:W.Rt)=⟨r.n+1,r.seg.set r.n.toNat (nx.getD k 0)⟩:=by
       rw [hrn,show (r.n+1-1).toNat=r.n.toNat by congr 1;omega,hsg,hxe]
      rw [hset]
      rw [hxe] at hx htl hseglen ⊢
      have hgood:RGood t ⟨r.n+1,r.seg.set r.n.toNat (nx.getD k 0)⟩:=next_ok hn hr (by omega) hx
      refine CallS.call (CallN.upd [0,1] [] (RvJL.cons (RvJ.ownP rfl) (RvJL.cons (RvJ.pu rfl) (RvJL.cons (RvJ.pu rfl) RvJL.nil))) (Als.nil _) (by simp)
       ⟨rfl,by decide,by simp,Giv.consB rfl (RcJ.cons (.pu rfl) (RcJ.cons (.pu rfl) (RcJ.cons (.pu rfl) (RcJ.cons (.pu rfl) (RcJ.mref rfl (RcJ.pu rfl)))))) (Giv.consO (by rfl) (by rfl) (by simp) Giv.done)⟩
       (growC t p ht hn f ⟨r.n+1,r.seg.set r.n.toNat (nx.getD k 0)⟩ (e+(t.segs.getD (nx.getD k 0).toNat default).length) lk ek (by dsimp only;omega) hgood (by omega) (by dsimp only;omega) hlk) (fun v gs' hp _=>?_))
      obtain⟨rfl,rfl⟩:=hp
      conv=>whnf
      repeat' ((refine Ob.mk (by unfold W.I64 at *;omega) ?_);conv=>whnf)
      have hstk:W.growF t p f ⟨r.n+1,r.seg.set r.n.toNat (nx.getD k 0)⟩ (e+(t.segs.getD (nx.getD k 0).toNat default).length) (lk,ek)=(nx.take (k+1)).foldl step (l,0):=by
       rw [List.take_succ_eq_append_getElem hlt,List.foldl_append,← hst,hstep]
       simp [List.getD,hlt]
       rfl
      refine⟨(k+1,W.growF t p f ⟨r.n+1,r.seg.set r.n.toNat (nx.getD k 0)⟩ (e+(t.segs.getD (nx.getD k 0).toNat default).length) (lk,ek),⟨r.n+1,r.seg.set r.n.toNat (nx.getD k 0)⟩),⟨by omega,hstk,⟨rfl,by simp [hr.len],fun x=>by simp⟩,growF_good p hn f _ _ _ hgood hlk⟩,by dsimp only;omega,(by trivial),(by trivial),(by trivial)⟩
     ·obtain rfl:k=nx.length:=by omega
      conv=>whnf
      repeat' ((refine Br.pf (by omega) ?_);conv=>whnf)
      rw [List.take_length] at hst
      rw [← hst]
      refine FinAt.asis (ars:=[]) [] RvL.nil (by simp) (by show 2≤_;simp) rfl ⟨rfl,rfl⟩
  ·rw [if_pos (by simpa using hE0)]
   conv=>whnf
   repeat' ((first|refine LdAt.rt rfl _ rfl (by omega) ?_|refine Pc.sym ?_|refine Br.nt (by assumption) ?_|refine Ob.mk (by omega) ?_|refine Ob.mk (by unfold W.I64 at *;omega) ?_|refine Drw.loose (by kernel_rfl) ?_|refine Ix.tn (by omega) ?_);conv=>whnf)
   all_goals refine FinAt.asis (ars:=[]) [] RvL.nil (by simp) (by show 2≤_;simp) rfl ⟨rfl,rfl⟩
theorem pdqO:∀ (m:Nat) (l:List Int) (r:List Value) (n c:Nat) (x y z:Int) (hn:l.length=n) (h0:0≤x) (hx:x≤y) (hy:y≤n) (hc:n≤255) (hz:0≤z) (hz2:z≤1000) (hm:y-x<m),
  SortC i1 1 215 n c l r [I x,I y,I z] (·=.tup [])
 |0,_,_,_,_,_,_,_,_,_,_,_,_,_,_,hm=>by omega
 |m+1,l,r,n,c,x,y,z,hn,h0,hx,hy,hc,hz,hz2,hm=>by
  refine enterO tabOk (N:=134) (gs:=[_]) (args:=[_,_,_,_]) Tryz.func215 rfl rfl rfl (nLe rfl) (fun E hE=>?_)
  conv=>whnf
  refine LoopAt.rule tabOk [(0,_)] (fun (q:Int×Int×Int×Bool×Bool×List Int)=>[(1,.int .i64 q.1),(2,.int .i64 q.2.1),(3,.int .i64 q.2.2.1),(8,.bool q.2.2.2.1),(9,.bool q.2.2.2.2.1)]) (fun (q:Int×Int×Int×Bool×Bool×List Int)=>[.blk (ar i1 q.2.2.2.2.2 r)]) (fun (q:Int×Int×Int×Bool×Bool×List Int)=>q.2.2.2.2.2.Perm l∧x≤q.1∧q.1≤q.2.1∧q.2.1≤y∧0≤q.2.2.1∧q.2.2.1≤1000) (fun (q:Int×Int×Int×Bool×Bool×List Int)=>(q.2.1-q.1).toNat) (x,y,z,true,true,l) (by (repeat refine And.intro (by first|rfl|exact congrArg (fun z=>some (AV.int .i64 z)) (by first|omega|(dsimp only;omega))) ?_);exact trivial) ⟨.refl _,Int.le_refl _,hx,Int.le_refl _,hz,hz2⟩ (by (repeat refine And.intro (by first|rfl|exact congrArg (fun z=>some (AV.int .i64 z)) (by first|omega|(dsimp only;omega))) ?_);exact trivial) (by (repeat refine And.intro (by first|rfl|exact congrArg (fun z=>some (AV.int .i64 z)) (by first|omega|(dsimp only;omega))) ?_);exact trivial) (fun _=>⟨rfl,rfl,okAr,by simp [hE]⟩) (fun q hk=>?_)
  obtain⟨a,b,d,b1,b2,l1⟩:=q
  obtain⟨hp,ha,hab,hb,hd,hd2⟩:=hk
  dsimp only at hp ha hab hb hd hd2 ⊢
  have hl1:=hp.length_eq
  conv=>whnf
  repeat' (first|((first|refine Ix.tn (by omega) ?_|refine Pc.sym ?_|refine LdAt.one (e:=i1) (v:=I) (fun _=>rfl) (fun _=>rfl) 0 rfl _ rfl (by omega) ?_|refine CallS.srtP (insertO _ r n c _ _ (by omega) (by omega) (by omega) (by omega) (by omega)) (by assumption) rfl (fun _=>rfl) (fun _=>rfl) (fun x l' hx hp' hl'=>?_);obtain rfl:=hx|refine CallS.srtP (heapO _ r n c _ _ (by omega) (by omega) (by omega) (by omega) (by omega)) (by assumption) rfl (fun _=>rfl) (fun _=>rfl) (fun x l' hx hp' hl'=>?_);obtain rfl:=hx|refine CallS.srtP (breakO _ r n c _ _ (by omega) (by omega) (by omega) (by omega) (by omega)) (by assumption) rfl (fun _=>rfl) (fun _=>rfl) (fun x l' hx hp' hl'=>?_);obtain rfl:=hx|refine CallS.srtP (pivotO _ r n c _ _ (by omega) (by omega) (by omega) (by omega) (by omega)) (by assumption) rfl (fun _=>rfl) (fun _=>rfl) (fun x l' hx hp' hl'=>?_);obtain⟨p,h,rfl,hp1,hp2⟩:=hx|refine CallS.srtP (revO _ r n c _ _ (by omega) (by omega) (by omega) (by omega) (by omega)) (by assumption) rfl (fun _=>rfl) (fun _=>rfl) (fun x l' hx hp' hl'=>?_);obtain rfl:=hx|refine CallS.srtP (partInsO _ r n c _ _ (by omega) (by omega) (by omega) (by omega) (by omega)) (by assumption) rfl (fun _=>rfl) (fun _=>rfl) (fun x l' hx hp' hl'=>?_);obtain⟨p,rfl⟩:=hx|refine CallS.srtP (partEqO _ r n c _ _ _ (by omega) (by omega) (by omega) (by omega) (by omega) (by omega)) (by assumption) rfl (fun _=>rfl) (fun _=>rfl) (fun x l' hx hp' hl'=>?_);obtain⟨p,rfl,hp1,hp2⟩:=hx|refine CallS.srtP (partO _ r n c _ _ _ (by omega) (by omega) (by omega) (by omega) (by omega) (by omega)) (by assumption) rfl (fun _=>rfl) (fun _=>rfl) (fun x l' hx hp' hl'=>?_);obtain⟨p,b,rfl,hp1,hp2⟩:=hx|refine CallS.srtP (pdqO m _ r n c _ _ _ (by omega) (by omega) (by omega) (by omega) (by omega) (by omega) (by omega) (by omega)) (by assumption) rfl (fun _=>rfl) (fun _=>rfl) (fun x l' hx hp' hl'=>?_);obtain rfl:=hx|refine Br.ot (by assumption) ?_|refine Br.of (by assumption) ?_|refine Br.pt (by assumption) ?_|refine Br.pf (by assumption) ?_|refine Br.pt (by omega) ?_|refine Br.of rfl ?_|refine CallX.pu (less _ _) rfl rfl ?_|refine Ob.mk (by omega) ?_|refine Ob.mk (by unfold W.I64 at *;omega) ?_|refine Drw.loose (by kernel_rfl) ?_);conv=>whnf)|((first|refine Br.d (fun h=>?_) (fun h=>?_)|refine Br.n (fun h=>?_) (fun h=>?_)|refine Br.mk (fun h=>?_) (fun h=>?_))<;>conv=>whnf))
  all_goals first
   |exact FinAt.asis (ars:=[]) [] RvL.nil (by simp) (by show 1≤_;simp) okAr ⟨rfl,_,(by assumption),rfl⟩
   |(
     refine Exists.intro (_,_,_,_,_,_) ⟨?_,?_,(by trivial),(by trivial),(by trivial)⟩
     ·refine⟨by assumption,?_,?_,?_,?_,?_⟩<;>dsimp only<;>omega
     ·dsimp only;omega)
theorem sortO(l:List Int)(r:List Value)(n c:Nat)(hn:l.length=n)(h0:0<n)(hc:n≤255) :
  SortC i1 1 201 n c l r [] (·=.tup []):=by
 refine enterO tabOk (N:=11) (gs:=[_]) (args:=[_]) Tryz.func201 rfl rfl rfl (nLe rfl) (fun E hE=>?_)
 have hw:IntKind.u64.wrap (n:Int)=n:=wrap_u64_id (by omega) (by omega)
 conv=>whnf
 refine CallS.call (CallN.puP (by rw [hw];exact bitsLen n (by omega) (by omega)) rfl (fun v hv=>?_))
 obtain⟨q,rfl,h2,h3,h4⟩:=hv
 conv=>whnf
 refine CallS.srt (pdqO (n+1) l r n c _ _ _ hn (by omega) (by omega) (by omega) hc (by omega) (by omega) (by omega)) rfl (fun _=>rfl) (fun _=>rfl) (fun x l' hx hp=>?_)
 subst hx
 conv=>whnf
 exact FinAt.asis (ars:=[]) [] RvL.nil (by simp) (by show 1≤_;simp) okAr ⟨rfl,_,hp,rfl⟩
theorem eachN(g:W.Grp)(s:W.RSet)(t:W.Trk)(ht:TLen t)(hf:0≤s.from_∧s.from_≤1099511627776)(hr:∀ i,i<s.list.length→ROk t (s.list.getD i ⟨0,[]⟩))(hlen:s.list.length≤1000000)
  (hc:∀ (i at_:Int),(i,at_)∈s.visits t→0≤i→i<t.segs.length→-1099511627776≤at_→at_≤13194139533312→RetO Tryz.prog 200 [.blk (gpC g),.blk [.emp]] [I i,I at_,.own 0 0,.own 1 0] (fun r gs'=>r=.tup []∧gs'=[.blk (gpC g),.blk [.emp]])) :
  RetO Tryz.prog 194 [.blk (gpC g),.blk [.emp]] [setV s,trkV t,.fn 200 [] [.own 0 0,.own 1 0]] (fun r gs'=>r=.tup []∧gs'=[.blk (gpC g),.blk [.emp]]):=by
 refine enterO tabOk (N:=42) (args:=[_,_,_]) Tryz.func194 rfl rfl rfl (nLe rfl) (fun E hE=>?_)
 have hE:E.gs.length=2:=hE
 conv=>whnf
 refine LoopAt.rule tabOk [(2,_),(3,_),(4,_),(12,_),(13,_)] (fun (i:Nat)=>[(14,.int .i64 (i:Int))]) (fun (i:Nat)=>[.blk (gpC g),.blk [.emp],.blk [I s.from_,rtsV s.list],.blk [sgsV t.segs,gpsV t.grps]]) (fun (i:Nat)=>i≤s.list.length) (fun (i:Nat)=>s.list.length-i) 0 (by trivial) (Nat.zero_le _) (by trivial) (by trivial) (fun _=>⟨rfl,rfl,rfl,by simp [hE]⟩) (fun i hk=>?_)
 obtain⟨q,rfl⟩:∃ q,q=i:=⟨i,rfl⟩
 have hq:q≤s.list.length:=hk
 by_cases hlt:q<s.list.length
 ·have hro:=hr q hlt
  have hl:=path_len hro.len hro.lo hro.hi
  have hln:(s.list.getD q ⟨0,[]⟩).path.length≤12:=by have:=hro.hi;omega
  conv=>whnf
  repeat' ((first|refine Br.pt (by omega) ?_|refine CallS.q (path _ hro.len hro.lo hro.hi) rfl ?_|refine Ob.mk (by omega) ?_|refine Ob.mk (by unfold W.I64 at *;omega) ?_|refine Ix.nat _ ?_);conv=>whnf)
  refine LoopAt.rule tabOk [(2,_),(3,_),(4,_),(12,_),(13,_),(14,_),(22,_),(23,_)] (fun (i:Nat×Int)=>[(24,.int .i64 i.1),(8,.int .i64 i.2)]) (fun (i:Nat×Int)=>[.blk (gpC g),.blk [.emp],.blk [I s.from_,rtsV s.list],.blk [sgsV t.segs,gpsV t.grps],.blk (rtC (s.list.getD q ⟨0,[]⟩))]) (fun (i:Nat×Int)=>i.1≤(s.list.getD q ⟨0,[]⟩).path.length∧i.2=pre t s.from_ (s.list.getD q ⟨0,[]⟩).path i.1) (fun (i:Nat×Int)=>(s.list.getD q ⟨0,[]⟩).path.length-i.1) (0,-s.from_) (by trivial) ⟨by omega,rfl⟩ (by trivial) (by trivial) (fun _=>⟨rfl,rfl,rfl,by simp [hE]⟩) (fun i hk=>?_)
  obtain⟨k,at_⟩:=i
  obtain⟨hk,ha⟩:=hk
  dsimp only at hk ha ⊢
  have hb:=pre_le (f:=s.from_) ht hro.p k hk
  by_cases hlt2:k<(s.list.getD q ⟨0,[]⟩).path.length
  ·have h1:=hro.p k hlt2
   have h2:=len_ok ht hro.p hlt2
   have hn:=pre_succ (t:=t) (f:=s.from_) hlt2
   have hlen2:t.len ((s.list.getD q ⟨0,[]⟩).path.getD k 0)=(t.segs.getD ((s.list.getD q ⟨0,[]⟩).path.getD k 0).toNat default).length:=rfl
   have hmem:((s.list.getD q ⟨0,[]⟩).path.getD k 0,at_)∈s.visits t:=by
    unfold W.RSet.visits
    rw [List.mem_flatMap]
    refine⟨s.list.getD q ⟨0,[]⟩,by simp [List.getD,hlt],?_⟩
    have:=along_get t s.from_ (s.list.getD q ⟨0,[]⟩).path k hlt2
    rw [← ha] at this
    exact List.mem_of_getElem? this
   have hcc:=hc ((s.list.getD q ⟨0,[]⟩).path.getD k 0) at_ hmem h1.1 h1.2 (by omega) (by omega)
   conv=>whnf
   repeat' ((first|refine Br.pt (by omega) ?_|refine Ob.mk (by omega) ?_|refine Ix.nat _ ?_);conv=>whnf)
   refine CallS.call (CallN.upd [0,1] [] (RvJL.cons (RvJ.pu rfl) (RvJL.cons (RvJ.pu rfl) (RvJL.cons (RvJ.ownP rfl) (RvJL.cons (RvJ.ownP rfl) (RvJL.nil))))) (Als.nil _) (by simp) ⟨rfl,by decide,by simp,Giv.consB rfl (RcJ.pu rfl) (Giv.consB rfl (RcJ.pu rfl) (Giv.done))⟩ hcc (fun r gs' hp _=>?_))
   obtain⟨rfl,rfl⟩:=hp
   conv=>whnf
   repeat' ((first|refine Ob.mk (by omega) ?_|refine Ob.mk (by unfold W.I64 at *;omega) ?_|refine Ix.tn (by omega) ?_);conv=>whnf)
   refine⟨(k+1,_),⟨?_,?_⟩,?_,(by trivial),(by trivial),(by trivial)⟩
   ·dsimp only;omega
   ·dsimp only;rw [hn,hlen2,ha]
   ·dsimp only;omega
  ·obtain rfl:k=(s.list.getD q ⟨0,[]⟩).path.length:=by omega
   conv=>whnf
   repeat' ((first|refine Br.pf (by omega) ?_|refine Ob.mk (by unfold W.I64 at *;omega) ?_);conv=>whnf)
   exact⟨q+1,by omega,by omega,(by trivial),(by trivial),(by trivial)⟩
 ·obtain rfl:q=s.list.length:=by omega
  conv=>whnf
  repeat' ((refine Br.pf (by omega) ?_);conv=>whnf)
  exact FinAt.asis (ars:=[]) [] RvL.nil (by simp) (by show 2≤_;simp) rfl ⟨rfl,rfl⟩
structure SOk(t:W.Trk)(s:W.RSet):Prop where
 f:0≤s.from_∧s.from_≤1099511627776
 r:∀ i,i<s.list.length→ROk t (s.list.getD i ⟨0,[]⟩)
 n:s.list.length≤16
theorem grades_(t:W.Trk)(s:W.RSet)(p:W.Sp)(ht:TLen t)(hp:PLen t)(hs:SOk t s):Ret Tryz.prog 181 [setV s,trkV t,.agg [I p.lo,I p.hi]] (·=.tup [spV (s.grades t p).1,.bool (s.grades t p).2]):=by
 refine enterO tabOk (N:=16) (gs:=[]) (args:=[_,_,_]) Tryz.func181 rfl rfl rfl (nLe rfl) (fun E hE=>?_)
 conv=>whnf
 refine CallS.call (CallN.updE [2,1,5,4] [] (RvJL.cons (RvJ.pu rfl) (RvJL.cons (RvJ.pu rfl) (RvJL.cons (RvJ.fn R0J.nil (R0J.ownP rfl (R0J.ownP rfl (R0J.ownP rfl (R0J.ownP rfl R0J.nil))))) RvJL.nil))) (Als.nil _) (by simp)
  ⟨rfl,by decide,by simp,Giv.consB rfl (RcJ.pu rfl) (Giv.consB rfl (RcJ.pu rfl) (Giv.consB rfl (RcJ.pu rfl) (Giv.consB rfl (RcJ.pu rfl) Giv.done)))⟩
  (eachG p (fun x:W.Sp×Bool=>x.2) (fun x=>x.1) (fun _=>True) (W.gradeStep t p) s t ht hs.f hs.r (by have:=hs.n;omega) (fun x i at_ _ h1 h2 h3 h4=>⟨by
   obtain⟨k,rfl⟩:=Int.eq_ofNat_of_zero_le h1
   exact gradesC p t ht hp x k at_ (by omega) h3 h4,trivial⟩) (⟨0,0⟩,false) trivial) ?_)
 conv=>whnf
 repeat' (first|((first|(refine Drw.len 4 2 rfl rfl ?_;refine Drw.tree tabOk (.alt (.go 0 (.alt (.go 1 (.go 2 (.go 3 .done))) (.go 2 (.go 1 (.go 3 .done))))) (.go 1 (.go 0 (.go 2 (.go 3 .done))))) 4 rfl (by kernel_rfl) ?_)|refine FinAt.val rfl ?_);conv=>whnf)|((refine Both.mk ?_ ?_)<;>conv=>whnf))
 all_goals rfl
theorem CallN.srtI{α:Type}{e:α→List AV}{sz f n c:Nat}{l:List α}{r:List Value}{xs:List AV}{p:AV→Prop}{N:Nat}{E:En}{dst:Option Nat}{K:Tm→Ow→Prop}{tm:Tm}{own:Ow}(i:Nat)(hb:nth own i=some (.blk (ar e l r)))(h:SortC e sz f n c l r xs p)(hp:puL xs=true)(he:∀ x,puL (e x)=true)(he2:∀ x,rnL1 [i] (e x)=e x)
  (hK:∀ x l',p x→l'.Perm l→put N tm dst x fun tm=>K tm (own.set i (.blk (ar e l' r)))):CallN Tryz.prog N E f (.sl i 0 sz n c::xs) dst K tm own:=by
 refine CallN.upd [i] [] (RvJL.cons (RvJ.sl rfl) (RvJL.pu hp)) (Als.nil _) (by simp) (Giv.one hb (by simp) (RcJ.pu (puL_ar he l r))) h (fun x gs ⟨h1,l',h2,h3⟩ _=>?_)
 subst h3
 have:=hK x l' h1 h2
 simp only [List.map_cons,List.map_nil,rnO,rnL1_ar [i] he2,putJ,killI]
 exact this
theorem apI64:Ap Tryz.prog 130 2 1:=⟨.int .i64 0,8,by kernel_rfl,by kernel_rfl,rfl,by decide,by decide⟩
theorem placesN(g:W.Grp)(i at_:Int)(h:i≠g.seg):RetO Tryz.prog 200 [.blk (gpC g),.blk [.emp]] [I i,I at_,.own 0 0,.own 1 0] (fun r gs'=>r=.tup []∧gs'=[.blk (gpC g),.blk [.emp]]):=by
 refine enterO tabOk (N:=17) (gs:=[_,_]) (args:=[_,_,_,_]) Tryz.func200 rfl rfl rfl (nLe rfl) (fun E hE=>?_)
 conv=>whnf
 repeat' ((refine Br.pf (by assumption) ?_);conv=>whnf)
 exact FinAt.asis (ars:=[]) [] RvL.nil (by simp) (by show 2≤_;simp) rfl ⟨rfl,rfl⟩
def plStep(g:W.Grp)(l:List Int)(v:Int×Int):List Int:=if v.1=g.seg then l++[v.2+g.offset] else l
theorem placesC(g:W.Grp)(l:List Int)(i at_:Int)(hl:l.length≤1000)(h2:-1099511627776≤at_)(h3:at_≤13194139533312)(h4:0≤g.offset)(h5:g.offset≤1099511627776) :
  RetO Tryz.prog 200 [.blk (gpC g),.blk [.gro 2 (l.map i1).length],.buf 2 1 (l.map i1)] [I i,I at_,.own 0 0,.own 1 0] (fun r gs'=>r=.tup []∧gs'=[.blk (gpC g),.blk [.gro 2 ((plStep g l (i,at_)).map i1).length],.buf 2 1 ((plStep g l (i,at_)).map i1)]):=by
 refine enterO tabOk (N:=17) (gs:=[_,_,_]) (args:=[_,_,_,_]) Tryz.func200 rfl rfl rfl (nLe rfl) (fun E hE=>?_)
 unfold plStep
 by_cases he:i=g.seg
 ·conv=>whnf
  repeat' ((first|refine OpAt.appG apI64 rfl [3] rfl rfl rfl rfl (by simp) (by repeat (first|exact Als.nil _|refine Als.cons rfl rfl ?_)) (by simp [hE]) (Xs.one rfl rfl rfl (RvL.pu rfl) rfl) (by decide) (by simp;omega) ?_|refine Br.pt (by assumption) ?_|refine Ob.mk (by unfold W.I64 at *;omega) ?_|refine BsN.mark ?_);conv=>whnf)
  refine FinAt.asis (ars:=[]) [] RvL.nil (by simp) (by show 3≤_;simp) rfl ⟨rfl,?_⟩
  rw [if_pos he]
  simp
 ·conv=>whnf
  repeat' ((refine Br.pf (by assumption) ?_);conv=>whnf)
  refine FinAt.asis (ars:=[]) [] RvL.nil (by simp) (by show 3≤_;simp) rfl ⟨rfl,?_⟩
  rw [if_neg he];rfl
theorem plStep_len(g:W.Grp)(l:List Int)(v:Int×Int):(plStep g l v).length≤l.length+1:=by
 unfold plStep;split<;>simp
theorem plStep_raw(t:W.Trk)(g:W.Grp):∀ (vs:List (Int×Int)) (l:List Int),vs.foldl (plStep g) l=l++(vs.filter fun v=>v.1==g.seg).map fun v=>v.2+g.offset
 |[],l=>by simp
 |v::vs,l=>by
  rw [List.foldl_cons,plStep_raw t g vs,List.filter_cons]
  unfold plStep
  by_cases h:v.1=g.seg<;>simp [h]
theorem along_le{t:W.Trk}{s:W.RSet}(hs:SOk t s):(s.visits t).length≤12*s.list.length:=by
 unfold W.RSet.visits
 have:∀ (l:List W.Rt),(∀ r∈l,ROk t r)→(l.flatMap fun r=>W.along t (-s.from_) r.path).length≤12*l.length:=by
  intro l
  induction l with
  |nil=>intro _;simp
  |cons r l ih =>
   intro h
   rw [List.flatMap_cons,List.length_append,along_len,List.length_cons]
   have h1:=h r List.mem_cons_self
   have:=path_len h1.len h1.lo h1.hi
   have:=h1.hi
   have:=ih fun r hr=>h r (List.mem_cons_of_mem _ hr)
   omega
 refine this _ fun r hr=>?_
 obtain⟨i,hi,e⟩:=List.getElem_of_mem hr
 have:=hs.r i hi
 simpa [List.getD,hi,e] using this
def PlacesIs(t:W.Trk)(s:W.RSet)(g:W.Grp)(v:AV):Prop:=∃ l:List Int,v=isV l∧l.length≤192∧∀ x,x∈l↔x∈s.placesRaw t g
theorem lenZ:Ret Tryz.prog 214 [.int .u64 0] (fun v=>∃ q:Int,v=I q∧0≤q∧q≤8):=by
 refine enterO tabOk (N:=25) (gs:=[]) (args:=[_]) Tryz.func214 rfl rfl rfl (nLe rfl) (fun E hE=>?_)
 conv=>whnf
 repeat' ((first|refine QAt.tab8 (j:=0) rfl (by kernel_rfl) rfl (by decide) (by decide) (by kernel_rfl) (fun u h0 h1 h2=>?_)|refine Br.pf (by omega) ?_|refine Ob.mk (by unfold W.I64 at *;omega) ?_|refine FinAt.val rfl ?_);conv=>whnf)
 exact⟨0+u,rfl,by omega,by omega⟩
theorem insertE:Ret Tryz.prog 225 [.emp,I 0,I 0] (·=.tup []):=by
 refine enterO tabOk (N:=49) (gs:=[]) (args:=[_,_,_]) Tryz.func225 rfl rfl rfl (nLe rfl) (fun E hE=>?_)
 conv=>whnf
 repeat' ((refine Ob.mk (by unfold W.I64 at *;omega) ?_);conv=>whnf)
 refine LoopAt.rule tabOk [(2,_)] (fun (k:Nat)=>[(6,.int .i64 1)]) (fun (k:Nat)=>[]) (fun (k:Nat)=>True) (fun (k:Nat)=>0) 0 (by trivial) trivial (by trivial) (by trivial) (fun _=>⟨rfl,rfl,rfl,by simp [hE]⟩) (fun k hk=>?_)
 conv=>whnf
 repeat' ((first|refine Br.nf (by assumption) ?_|refine FinAt.val rfl ?_);conv=>whnf)
 rfl
theorem pdqE(q:Int):Ret Tryz.prog 215 [.emp,I 0,I 0,I q] (·=.tup []):=by
 refine enterO tabOk (N:=134) (gs:=[]) (args:=[_,_,_,_]) Tryz.func215 rfl rfl rfl (nLe rfl) (fun E hE=>?_)
 conv=>whnf
 refine LoopAt.rule tabOk [(0,_),(1,_),(2,_)] (fun (k:Nat)=>[]) (fun (k:Nat)=>[]) (fun (k:Nat)=>True) (fun (k:Nat)=>0) 0 (by trivial) trivial (by trivial) (by trivial) (fun _=>⟨rfl,rfl,rfl,by simp [hE]⟩) (fun k hk=>?_)
 conv=>whnf
 repeat' ((first|refine Br.pt (by omega) ?_|refine CallS.q (insertE) rfl ?_|refine Ob.mk (by unfold W.I64 at *;omega) ?_|refine FinAt.val rfl ?_);conv=>whnf)
 rfl
theorem sortE:Ret Tryz.prog 201 [.emp] (·=.tup []):=by
 refine enterO tabOk (N:=11) (gs:=[]) (args:=[_]) Tryz.func201 rfl rfl rfl (nLe rfl) (fun E hE=>?_)
 conv=>whnf
 refine CallS.call (CallN.puP (f:=197) (post:=fun v=>∃ q:Int,v=I q∧0≤q∧q≤8) ?_ rfl (fun v hv=>?_))
 ·show Ret Tryz.prog 197 [.int .u64 0] _
  refine enterO tabOk (N:=8) (gs:=[]) (args:=[_]) Tryz.func197 rfl rfl rfl (nLe rfl) (fun E hE=>?_)
  conv=>whnf
  repeat' ((refine Br.of rfl ?_);conv=>whnf)
  refine CallS.call (CallN.puP lenZ rfl (fun r hr=>?_))
  obtain⟨q,rfl,h2⟩:=hr
  conv=>whnf
  repeat' ((refine FinAt.val rfl ?_);conv=>whnf)
  exact⟨q,rfl,h2⟩
 ·obtain⟨q,rfl,h2,h3⟩:=hv
  conv=>whnf
  repeat' ((first|refine CallS.q (pdqE q) rfl ?_|refine FinAt.val rfl ?_);conv=>whnf)
  rfl
theorem compactE:Ret Tryz.prog 202 [.emp] (·=.emp):=by
 refine enterO tabOk (N:=61) (gs:=[]) (args:=[_]) Tryz.func202 rfl rfl rfl (nLe rfl) (fun E hE=>?_)
 conv=>whnf
 repeat' ((first|refine Br.pt (by omega) ?_|refine FinAt.val rfl ?_);conv=>whnf)
 rfl
theorem Rv.slM{own:Ow}{I:List Nat}{i off sz m c:Nat}{cs:List AV}{f:Nat→List AV}(hi:i∈I)(hb:nth own i=some (.blk cs))(hc:m≤c∧c≤maxLen)(h:∀ j,j<m→off+(j+1)*sz≤cs.length∧RvL own I ((cs.drop (off+j*sz)).take sz) (f j)):Rv own I (.sl i off sz m c) (.lst sz m f):=fun S n ids base hl V hr=>by
 obtain⟨b,g1,rfl⟩:=hr.sl
 obtain⟨vs,g2,g3⟩:=Rv.cells hb hl g1
 refine⟨_,_,rfl,hc.1,hc.2,fun h0=>⟨b,off,rfl,.inr ⟨i,_,hi,g1,rfl⟩,g3.lt,fun j hj=>?_⟩⟩
 obtain⟨q1,q2⟩:=h j hj
 rw [Nat.succ_mul] at q1
 refine⟨(vs.drop (off+j*sz)).take sz,q2 S n ids base hl _ (R1L_R ((g2.drop _).take sz)),?_,⟨fun q v hq=>?_,g3.lt⟩⟩
 ·simp only [List.length_take,List.length_drop,g2.len];omega
 ·rw [List.getElem?_take] at hq
  split at hq
  ·exact g3.cell _ v (by simpa using hq)
  ·cases hq
theorem ar_flat(l:List Int):ar i1 l []=(l.map i1).flatten:=by unfold ar;simp [List.flatMap]
theorem places_(t:W.Trk)(s:W.RSet)(i:Nat)(ht:TLen t)(hs:SOk t s)(hi:i<t.grps.length)(hg:t.grps.length≤400)(h4:0≤(t.grps.getD i default).offset)(h5:(t.grps.getD i default).offset≤1099511627776):Ret Tryz.prog 187 [setV s,trkV t,I i] (PlacesIs t s (t.grps.getD i default)):=by
 have hn:=hs.n
 have hraw:=plStep_raw t (t.grps.getD i default) (s.visits t) []
 rw [List.nil_append] at hraw
 have hlen:(s.placesRaw t (t.grps.getD i default)).length≤192:=by
  have h1:=along_le hs
  have h2:(s.placesRaw t (t.grps.getD i default)).length≤(s.visits t).length:=by
   unfold W.RSet.placesRaw
   rw [List.length_map]
   exact List.length_filter_le _ _
  omega
 refine enterO tabOk (N:=31) (gs:=[]) (args:=[_,_,_]) Tryz.func187 rfl rfl rfl (nLe rfl) (fun E hE=>?_)
 by_cases h0:s.placesRaw t (t.grps.getD i default)=[]
 ·have hno:∀ j at_,(j,at_)∈s.visits t→j≠(t.grps.getD i default).seg:=fun j at_ hm e=>by
   have:at_+(t.grps.getD i default).offset∈s.placesRaw t (t.grps.getD i default):=by
    unfold W.RSet.placesRaw
    rw [List.mem_map]
    exact⟨(j,at_),List.mem_filter.2 ⟨hm,by simp [e]⟩,rfl⟩
   rw [h0] at this;cases this
  conv=>whnf
  repeat' ((first|refine Br.pf (by omega) ?_|refine Ob.mk (by omega) ?_|refine Ix.nat _ ?_);conv=>whnf)
  refine CallS.call (CallN.updE [3,2] [] (RvJL.cons (RvJ.pu rfl) (RvJL.cons (RvJ.pu rfl) (RvJL.cons (RvJ.fn R0J.nil (R0J.ownP rfl (R0J.ownP rfl R0J.nil))) RvJL.nil))) (Als.nil _) (by simp)
   ⟨rfl,by decide,by simp,Giv.consB rfl (RcJ.pu rfl) (Giv.consB rfl (RcJ.pu rfl) Giv.done)⟩
   (eachN (t.grps.getD i default) s t ht hs.f hs.r (by omega) (fun j at_ hm _ _ _ _=>placesN _ j at_ (hno j at_ hm))) ?_)
  conv=>whnf
  repeat' ((first|refine FinAt.gen (ars:=[isV []]) [] (RvL.cons Rv.emp RvL.nil) (fun i hi=>by cases hi) ?_|refine CallS.q (sortE) rfl ?_|refine CallS.q (compactE) rfl ?_);conv=>whnf)
  exact⟨[],rfl,by simp,fun x=>by rw [h0]⟩
 ·have h0l:0<(s.placesRaw t (t.grps.getD i default)).length:=by
   cases e:s.placesRaw t (t.grps.getD i default) with
   |nil=>exact absurd e h0
   |cons _ _=>simp
  have he:=eachP (t.grps.getD i default) (fun l:List Int=>l.map i1) (fun _=>True) (plStep (t.grps.getD i default)) List.length (plStep_len _) s t ht hs.f hs.r (by omega) (fun x j at_ _ hx _ _ h2 h3=>⟨placesC _ x j at_ (by omega) h2 h3 h4 h5,trivial⟩) [] trivial rfl
  rw [hraw] at he
  have hraw2:s.placesRaw t (t.grps.getD i default)=((s.visits t).filter fun v=>v.1==(t.grps.getD i default).seg).map fun v=>v.2+(t.grps.getD i default).offset:=rfl
  rw [← hraw2] at he
  obtain⟨raw,hrw⟩:∃ raw,s.placesRaw t (t.grps.getD i default)=raw:=⟨_,rfl⟩
  rw [hrw] at he h0l hlen
  conv=>whnf
  repeat' ((first|refine Br.pf (by omega) ?_|refine Ob.mk (by omega) ?_|refine Ix.nat _ ?_);conv=>whnf)
  refine CallS.emp 2 0 2 1 rfl rfl ?_
  refine CallN.updE [3,2,4] [] (RvJL.cons (RvJ.pu rfl) (RvJL.cons (RvJ.pu rfl) (RvJL.cons (RvJ.fn R0J.nil (R0J.ownP rfl (R0J.ownP rfl R0J.nil))) RvJL.nil))) (Als.nil _) (by simp)
   ⟨rfl,by decide,by simp,Giv.consB rfl (RcJ.pu rfl) (Giv.consB rfl (RcJ.gro rfl RcJ.nil) (Giv.consO rfl rfl (fun cs h=>by cases h) Giv.done))⟩ he ?_
  conv=>whnf
  refine CallS.unbuf 4 [(7,.own 2 0)] (fun c=>[.blk [I s.from_,rtsV s.list],.blk [sgsV t.segs,gpsV t.grps],.blk [.sl 4 0 1 (raw.map i1).length c],.blk (gpC (t.grps.getD i default)),.blk (ar i1 raw [])]) rfl (by simpa using h0l) rfl (by simp [hE]) (by simp [putJ,killI,rnO,rnL1,rn1,rn0,rnN,nth,ubOkO,ubOk,noG1,noG0,zAv,av1]) (by trivial) rfl (fun c=>by rw [ar_flat];rfl) (fun c hc1 hc2=>?_)
  refine CallN.srtI 4 rfl (sortO raw [] _ c (by simp) (by simpa using h0l) (by simp;omega)) rfl (fun _=>rfl) (fun _=>rfl) (fun x l1 hx hp=>?_)
  subst hx
  conv=>whnf
  refine CallS.call (CallN.updV [4] [] (RvJL.cons (RvJ.sl rfl) RvJL.nil) (Als.nil _) (by simp) (Giv.one rfl (by simp) (RcJ.pu (puL_ar (fun _=>rfl) l1 []))) (compactO l1 [] _ c (by simp [hp.length_eq]) (by simpa using h0l) hc1 (by simp;omega)) (fun v gs hv _=>?_))
  obtain⟨k,l2,k1,rfl,rfl,k2,k3⟩:=hv
  simp only [List.map_cons,List.map_nil,rnO,rnL1_ar [4] (e:=i1) (fun _=>rfl),putJ,killI]
  conv=>whnf
  have hk2:l2.length=raw.length:=k2.trans hp.length_eq
  have hkl:(l2.take k).length=k:=by rw [List.length_take];simp at k1;omega
  refine FinAt.gen (ars:=[isV (l2.take k)]) [4] (RvL.cons ?_ RvL.nil) (by repeat (first|exact Als.nil _|refine Als.cons rfl rfl ?_)) ⟨l2.take k,rfl,by simp at k1;omega,fun x=>by rw [hrw];exact(k3 x).trans hp.mem_iff⟩
  have e:isV (l2.take k)=.lst 1 k fun i=>[I ((l2.take k).getD i 0)]:=by show AV.lst 1 (l2.take k).length _=_;rw [hkl]
  rw [e]
  refine Rv.slM (cs:=ar i1 l2 []) (by simp [rnN,nth]) rfl ⟨by simp at k1 hc1;omega,hc2⟩ (fun j hj=>?_)
  have hjl:j<l2.length:=by simp at k1;omega
  obtain⟨q1,q2⟩:=ar_el (e:=i1) (sz:=1) (fun _=>rfl) (r:=[]) (0:Int) hjl
  refine⟨by omega,?_⟩
  rw [Nat.zero_add,q2]
  have:(l2.take k).getD j 0=l2.getD j 0:=by simp [List.getD,List.getElem?_take,hj]
  rw [this]
  exact RvL.pu rfl
theorem drop_cons{l:List Int}{k:Nat}(h:k<l.length):l.drop k=l.getD k 0::l.drop (k+1):=drop_getD 0 h
theorem compareL(x y:List Int)(hx:x.length≤1000000)(hy:y.length≤1000000):Ret Tryz.prog 199 [isV x,isV y] (·=I (W.cmpL x y)):=by
 refine enterO tabOk (N:=36) (gs:=[]) (args:=[_,_]) Tryz.func199 rfl rfl rfl (nLe rfl) (fun E hE=>?_)
 conv=>whnf
 refine LoopAt.rule tabOk [(0,_),(1,_),(9,_),(10,_)] (fun (k:Nat)=>[(11,.int .i64 (k:Int))]) (fun (k:Nat)=>[]) (fun (k:Nat)=>k≤x.length∧k≤y.length∧W.cmpL x y=W.cmpL (x.drop k) (y.drop k)) (fun (k:Nat)=>x.length-k) 0 (by trivial) ⟨Nat.zero_le _,Nat.zero_le _,rfl⟩ (by trivial) (by trivial) (fun _=>⟨rfl,rfl,rfl,by simp [hE]⟩) (fun k hk=>?_)
 obtain⟨h1,h2,h3⟩:=hk
 by_cases hlt:k<x.length
 ·by_cases hlt2:k<y.length
  ·have e:W.cmpL (x.drop k) (y.drop k)=if W.cmpI (x.getD k 0) (y.getD k 0)≠0 then W.cmpI (x.getD k 0) (y.getD k 0) else W.cmpL (x.drop (k+1)) (y.drop (k+1)):=by
    rw [drop_cons hlt,drop_cons hlt2];rfl
   conv=>whnf
   repeat' (first|((first|refine Br.pt (by omega) ?_|refine Br.pf (by omega) ?_|refine CallS.q (compare _ _) rfl ?_|refine Ob.mk (by omega) ?_|refine Ob.mk (by unfold W.I64 at *;omega) ?_|refine Ix.nat _ ?_|refine FinAt.val rfl ?_);conv=>whnf)|((refine Br.n (fun h=>?_) (fun h=>?_))<;>conv=>whnf))
   ·exact eqI (by rw [h3,e,if_pos (by assumption)])
   ·exact⟨k+1,⟨by omega,by omega,by rw [h3,e,if_neg (by rw [h];simp)]⟩,by omega,(by trivial),(by trivial),(by trivial)⟩
  ·conv=>whnf
   repeat' ((first|refine Br.pt (by omega) ?_|refine Ob.mk (by omega) ?_|refine Ix.nat _ ?_|refine FinAt.val rfl ?_);conv=>whnf)
   obtain rfl:k=y.length:=by omega
   exact eqI (by rw [h3,drop_cons hlt,List.drop_length];rfl)
 ·obtain rfl:k=x.length:=by omega
  by_cases hlt2:x.length<y.length
  ·conv=>whnf
   repeat' ((first|refine Br.pt (by omega) ?_|refine Br.pf (by omega) ?_|refine FinAt.val rfl ?_);conv=>whnf)
   exact eqI (by rw [h3,drop_cons hlt2,List.drop_length];rfl)
  ·conv=>whnf
   repeat' ((first|refine Br.pf (by omega) ?_|refine FinAt.val rfl ?_);conv=>whnf)
   exact eqI (by rw [h3,List.drop_length,show x.length=y.length by omega,List.drop_length];rfl)
theorem orC(x y:Int):Ret Tryz.prog 198 [.lst 1 2 fun i=>[I ([x,y].getD i 0)]] (·=I (if x≠0 then x else y)):=by
 refine enterO tabOk (N:=18) (gs:=[]) (args:=[_]) Tryz.func198 rfl rfl rfl (nLe rfl) (fun E hE=>?_)
 conv=>whnf
 refine LoopAt.rule tabOk [(3,_),(6,_),(7,_)] (fun (k:Nat)=>[(8,.int .i64 (k:Int))]) (fun (k:Nat)=>[]) (fun (k:Nat)=>k≤2∧(0<k→x=0)∧(1<k→y=0)) (fun (k:Nat)=>2-k) 0 (by trivial) ⟨Nat.zero_le _,by omega,by omega⟩ (by trivial) (by trivial) (fun _=>⟨rfl,rfl,rfl,by simp [hE]⟩) (fun k hk=>?_)
 obtain⟨h1,h2,h3⟩:=hk
 obtain rfl|rfl|rfl:k=0∨k=1∨k=2:=by omega
 ·conv=>whnf
  repeat' (first|((first|refine Br.pt (by omega) ?_|refine Ob.mk (by omega) ?_|refine Ob.mk (by unfold W.I64 at *;omega) ?_|refine Ix.of 0 rfl ?_|refine FinAt.val rfl ?_);conv=>whnf)|((refine Br.n (fun h=>?_) (fun h=>?_))<;>conv=>whnf))
  ·exact eqI (by rw [if_pos (by assumption)];rfl)
  ·exact⟨1,⟨by omega,fun _=>h,by omega⟩,by omega,(by trivial),(by trivial),(by trivial)⟩
 ·have hx:=h2 (by omega)
  subst hx
  conv=>whnf
  repeat' (first|((first|refine Br.pt (by omega) ?_|refine Ob.mk (by omega) ?_|refine Ob.mk (by unfold W.I64 at *;omega) ?_|refine Ix.of 1 rfl ?_|refine FinAt.val rfl ?_);conv=>whnf)|((refine Br.n (fun h=>?_) (fun h=>?_))<;>conv=>whnf))
  ·rfl
  ·exact⟨2,⟨by omega,fun _=>rfl,fun _=>h⟩,by omega,(by trivial),(by trivial),(by trivial)⟩
 ·have hx:=h2 (by omega)
  have hy:=h3 (by omega)
  subst hx
  subst hy
  conv=>whnf
  repeat' ((first|refine Br.nf (by assumption) ?_|refine FinAt.val rfl ?_);conv=>whnf)
  rfl
def s12(r:W.Rt):List Int:=[r.seg.getD 0 0,r.seg.getD 1 0,r.seg.getD 2 0,r.seg.getD 3 0,r.seg.getD 4 0,r.seg.getD 5 0,r.seg.getD 6 0,r.seg.getD 7 0,r.seg.getD 8 0,r.seg.getD 9 0,r.seg.getD 10 0,r.seg.getD 11 0]
def rtF(a b:W.Rt):Int:=if W.cmpL (s12 a) (s12 b)≠0 then W.cmpL (s12 a) (s12 b) else W.cmpI a.n b.n
theorem rvSeg{own:Ow}{I:List Nat}{i:Nat}{r:W.Rt}(hi:i∈I)(hb:nth own i=some (.blk (rtC r))):Rv own I (.sl i 1 1 12 12) (isV (s12 r)):=by
 refine Rv.sl hi hb (by omega) (fun j hj=>⟨by show 1+(j+1)*1≤13;omega,?_⟩)
 rcases(show j=0∨j=1∨j=2∨j=3∨j=4∨j=5∨j=6∨j=7∨j=8∨j=9∨j=10∨j=11 by omega) with rfl|rfl|rfl|rfl|rfl|rfl|rfl|rfl|rfl|rfl|rfl|rfl<;>exact RvL.pu rfl
theorem orderC(a b:W.Rt):Ret Tryz.prog 184 [rtV a,rtV b] (·=I (rtF a b)):=by
 refine enterO tabOk (N:=17) (gs:=[]) (args:=[_,_]) Tryz.func184 rfl rfl rfl (nLe rfl) (fun E hE=>?_)
 conv=>whnf
 repeat' ((first|refine CallX.of [0,1] (RvL.cons (rvSeg (by simp) rfl) (RvL.cons (rvSeg (by simp) rfl) RvL.nil)) (by repeat (first|exact Als.nil _|refine Als.cons rfl rfl ?_)) (compareL (s12 a) (s12 b) (nLe rfl) (nLe rfl)) rfl ?_|refine CallX.pu (compare _ _) rfl rfl ?_|refine Ob.mk (by simp only [Option.getD_some,Option.getD_none];omega) ?_|refine Drw.loose (by kernel_rfl) ?_|refine BsN.mark ?_);conv=>whnf)
 refine CallS.call (CallN.retE [2] (RvL.cons (Rv.sl (by simp) rfl (nLe rfl |> fun h=>⟨h,nLe rfl⟩) (fun j hj=>?_)) RvL.nil) (by repeat (first|exact Als.nil _|refine Als.cons rfl rfl ?_)) (by simp [hE]) (orC (W.cmpL (s12 a) (s12 b)) (W.cmpI a.n b.n)) ?_)
 ·obtain rfl|rfl:j=0∨j=1:=by omega
  ·exact⟨nLe rfl,RvL.pu rfl⟩
  ·exact⟨nLe rfl,RvL.pu rfl⟩
 ·conv=>whnf
  repeat' ((refine FinAt.val rfl ?_);conv=>whnf)
  rfl
abbrev cmpV:AV:=.fn 184 [] []
theorem okArR{l:List W.Rt}{r:List Value}{k:Nat}:okO k [.blk (ar rtC l r)]=true:=by simp [okO,okL1_ar k (e:=rtC) (fun x=>rfl)]
theorem okArR2{l:List W.Rt}{r:List Value}{k:Nat}{v:AV}(h:ok1 k v=true):okO k [.blk (ar rtC l r),.blk [v]]=true:=by simp [okO,okL1_ar k (e:=rtC) (fun x=>rfl),okL1,h]
theorem insertC(l:List W.Rt)(r:List Value)(n c:Nat)(x y:Int)(hn:l.length=n)(h0:0≤x)(hab:x≤y)(hb:y≤n)(hc:n≤1000000) :
  SortC rtC 13 205 n c l r [I x,I y,cmpV] (·=.tup []):=by
 obtain⟨a,rfl⟩:=Int.eq_ofNat_of_zero_le h0
 obtain⟨b,rfl⟩:=Int.eq_ofNat_of_zero_le (show 0≤y by omega)
 refine enterO tabOk (N:=53) (gs:=[_]) (args:=[_,_,_,_]) Tryz.func205 rfl rfl rfl (nLe rfl) (fun E hE=>?_)
 conv=>whnf
 repeat' ((refine Ob.mk (by unfold W.I64 at *;omega) ?_);conv=>whnf)
 refine LoopAt.rule tabOk [(0,_),(1,_),(2,_),(3,_)] (fun (i:Nat×List W.Rt)=>[(8,.int .i64 (i.1:Int))]) (fun (i:Nat×List W.Rt)=>[.blk (ar rtC i.2 r)]) (fun (i:Nat×List W.Rt)=>i.2.Perm l∧a<i.1∧i.1≤b+1) (fun (i:Nat×List W.Rt)=>b+1-i.1) (a+1,l) (by (repeat refine And.intro (by first|rfl|exact congrArg (fun z=>some (AV.int .i64 z)) (by first|omega|(dsimp only;omega))) ?_);exact trivial) ⟨.refl _,by omega,by dsimp only;omega⟩ (by (repeat refine And.intro (by first|rfl|exact congrArg (fun z=>some (AV.int .i64 z)) (by first|omega|(dsimp only;omega))) ?_);exact trivial) (by (repeat refine And.intro (by first|rfl|exact congrArg (fun z=>some (AV.int .i64 z)) (by first|omega|(dsimp only;omega))) ?_);exact trivial) (fun _=>⟨rfl,rfl,okArR,by simp [hE]⟩) (fun i hk=>?_)
 obtain⟨i,l1⟩:=i
 obtain⟨hp,hi,hi2⟩:=hk
 dsimp only at hp hi hi2 ⊢
 by_cases hlt:i<b
 ·conv=>whnf
  repeat' ((refine Br.pt (by omega) ?_);conv=>whnf)
  refine LoopAt.rule tabOk [(0,_),(1,_),(2,_),(8,_),(3,_)] (fun (j:Nat×List W.Rt)=>[(9,.int .i64 (j.1:Int))]) (fun (j:Nat×List W.Rt)=>[.blk (ar rtC j.2 r)]) (fun (j:Nat×List W.Rt)=>j.2.Perm l∧a≤j.1∧j.1≤i) (fun (j:Nat×List W.Rt)=>j.1) (i,l1) (by (repeat refine And.intro (by first|rfl|exact congrArg (fun z=>some (AV.int .i64 z)) (by first|omega|(dsimp only;omega))) ?_);exact trivial) ⟨hp,by dsimp only;omega,Nat.le_refl _⟩ (by (repeat refine And.intro (by first|rfl|exact congrArg (fun z=>some (AV.int .i64 z)) (by first|omega|(dsimp only;omega))) ?_);exact trivial) (by (repeat refine And.intro (by first|rfl|exact congrArg (fun z=>some (AV.int .i64 z)) (by first|omega|(dsimp only;omega))) ?_);exact trivial) (fun _=>⟨rfl,rfl,okArR,by simp [hE]⟩) (fun j hk=>?_)
  obtain⟨j,l2⟩:=j
  obtain⟨hp2,hj,hj2⟩:=hk
  dsimp only at hp2 hj hj2 ⊢
  have hl2:=hp2.length_eq
  conv=>whnf
  repeat' (first|((first|with_reducible refine Ix.nat _ ?_|refine Ix.tn (by omega) ?_|refine Pc.sym ?_|refine LdAt.row (e:=rtC) (n:=13) (fun _=>rfl) ⟨0,[]⟩ rfl _ (Nat.zero_add _) (by omega) ?_|refine StAt.el (e:=rtC) (n:=13) (fun _=>rfl) _ rfl rfl _ (Nat.zero_add _) (by first|omega|(simp only [List.length_set];omega)) ?_|(refine Drw.len 18 15 rfl rfl ?_;refine Drw.lateP tabOk [0,1,5,6,7,8,9,10,11,12,13,14] [2,3,4] [15,16,17] (by kernel_rfl) (by kernel_rfl) ?_)|refine Br.pt (by assumption) ?_|refine Br.pf (by assumption) ?_|refine Br.of rfl ?_|refine CallX.pu (orderC _ _) rfl rfl ?_|refine Ob.mk (by omega) ?_|refine Ob.mk (by unfold W.I64 at *;omega) ?_|refine Drw.loose (by kernel_rfl) ?_);conv=>whnf)|((refine Br.d (fun h=>?_) (fun h=>?_))<;>conv=>whnf))
  ·refine⟨(j-1,_),⟨?_,?_,?_⟩,?_,(by (repeat refine And.intro (by first|rfl|exact congrArg (fun z=>some (AV.int .i64 z)) (by first|omega|(dsimp only;omega))) ?_);exact trivial),(by trivial),(by trivial)⟩
   ·exact(swap_perm (W.Rt.mk 0 []) (by omega) (by omega)).trans hp2
   all_goals dsimp only;omega
  all_goals
   refine⟨(i+1,l2),⟨hp2,?_,?_⟩,?_,(by trivial),(by trivial),(by trivial)⟩
   all_goals dsimp only;omega
 ·conv=>whnf
  repeat' ((refine Br.pf (by omega) ?_);conv=>whnf)
  refine FinAt.asis (ars:=[]) [] RvL.nil (by simp) (by show 1≤_;simp) okArR ⟨rfl,l1,hp,rfl⟩
theorem siftC(l:List W.Rt)(r:List Value)(n c:Nat)(x y z:Int)(hn:l.length=n)(h0:0≤x)(hlo:x≤y)(h1:0≤z)(hb:z+y≤n)(hc:n≤1000000) :
  SortC rtC 13 220 n c l r [I x,I y,I z,cmpV] (·=.tup []):=by
 obtain⟨lo,rfl⟩:=Int.eq_ofNat_of_zero_le h0
 obtain⟨hi,rfl⟩:=Int.eq_ofNat_of_zero_le (show 0≤y by omega)
 obtain⟨first,rfl⟩:=Int.eq_ofNat_of_zero_le h1
 refine enterO tabOk (N:=82) (gs:=[_]) (args:=[_,_,_,_,_]) Tryz.func220 rfl rfl rfl (nLe rfl) (fun E hE=>?_)
 conv=>whnf
 refine LoopAt.rule tabOk [(0,_),(2,_),(3,_),(4,_)] (fun (q:Nat×List W.Rt)=>[(10,.int .i64 (q.1:Int))]) (fun (q:Nat×List W.Rt)=>[.blk (ar rtC q.2 r)]) (fun (q:Nat×List W.Rt)=>q.2.Perm l∧q.1≤hi) (fun (q:Nat×List W.Rt)=>hi-q.1) (lo,l) (by (repeat refine And.intro (by first|rfl|exact congrArg (fun z=>some (AV.int .i64 z)) (by first|omega|(dsimp only;omega))) ?_);exact trivial) ⟨.refl _,by dsimp only;omega⟩ (by (repeat refine And.intro (by first|rfl|exact congrArg (fun z=>some (AV.int .i64 z)) (by first|omega|(dsimp only;omega))) ?_);exact trivial) (by (repeat refine And.intro (by first|rfl|exact congrArg (fun z=>some (AV.int .i64 z)) (by first|omega|(dsimp only;omega))) ?_);exact trivial) (fun _=>⟨rfl,rfl,okArR,by simp [hE]⟩) (fun q hk=>?_)
 obtain⟨q,l1⟩:=q
 obtain⟨hp,hq⟩:=hk
 dsimp only at hp hq ⊢
 have hl1:=hp.length_eq
 conv=>whnf
 repeat' (first|((first|refine Ix.tn (by omega) ?_|refine Pc.sym ?_|refine LdAt.row (e:=rtC) (n:=13) (fun _=>rfl) ⟨0,[]⟩ rfl _ (Nat.zero_add _) (by omega) ?_|refine StAt.el (e:=rtC) (n:=13) (fun _=>rfl) _ rfl rfl _ (Nat.zero_add _) (by first|omega|(simp only [List.length_set];omega)) ?_|(refine Drw.len 24 21 rfl rfl ?_;refine Drw.lateP tabOk [0,1,2,3,8,9,10,11,12,13,14,15,16,17,18,19,20] [4,5,6,7] [21,22,23] (by kernel_rfl) (by kernel_rfl) ?_)|refine Br.pt (by assumption) ?_|refine Br.pf (by assumption) ?_|refine Br.of rfl ?_|refine CallX.pu (orderC _ _) rfl rfl ?_|refine Ob.mk (by omega) ?_|refine Ob.mk (by unfold W.I64 at *;omega) ?_|refine Drw.loose (by kernel_rfl) ?_);conv=>whnf)|((first|refine Br.d (fun h=>?_) (fun h=>?_)|refine Br.n (fun h=>?_) (fun h=>?_))<;>conv=>whnf))
 all_goals try exact FinAt.asis (ars:=[]) [] RvL.nil (by simp) (by show 1≤_;simp) okArR ⟨rfl,l1,hp,rfl⟩
 ·refine⟨(2*q+1+1,_),⟨?_,by dsimp only;omega⟩,by dsimp only;omega,(by (repeat refine And.intro (by first|rfl|exact congrArg (fun z=>some (AV.int .i64 z)) (by first|omega|(dsimp only;omega))) ?_);exact trivial),(by trivial),(by trivial)⟩
  exact(swap_perm (W.Rt.mk 0 []) (by omega) (by omega)).trans hp
 all_goals
  refine⟨(2*q+1,_),⟨?_,by dsimp only;omega⟩,by dsimp only;omega,(by (repeat refine And.intro (by first|rfl|exact congrArg (fun z=>some (AV.int .i64 z)) (by first|omega|(dsimp only;omega))) ?_);exact trivial),(by trivial),(by trivial)⟩
  exact(swap_perm (W.Rt.mk 0 []) (by omega) (by omega)).trans hp
theorem revC(l:List W.Rt)(r:List Value)(n c:Nat)(x y:Int)(hn:l.length=n)(h0:0≤x)(hab:x<y)(hb:y≤n)(hc:n≤1000000) :
  SortC rtC 13 209 n c l r [I x,I y,cmpV] (·=.tup []):=by
 obtain⟨a,rfl⟩:=Int.eq_ofNat_of_zero_le h0
 obtain⟨b,rfl⟩:=Int.eq_ofNat_of_zero_le (show 0≤y by omega)
 refine enterO tabOk (N:=34) (gs:=[_]) (args:=[_,_,_,_]) Tryz.func209 rfl rfl rfl (nLe rfl) (fun E hE=>?_)
 conv=>whnf
 repeat' ((refine Ob.mk (by unfold W.I64 at *;omega) ?_);conv=>whnf)
 refine LoopAt.rule tabOk [(0,_)] (fun (q:Nat×Nat×List W.Rt)=>[(8,.int .i64 (q.1:Int)),(9,.int .i64 (q.2.1:Int))]) (fun (q:Nat×Nat×List W.Rt)=>[.blk (ar rtC q.2.2 r)]) (fun (q:Nat×Nat×List W.Rt)=>q.2.2.Perm l∧q.1≤n∧q.2.1<n) (fun (q:Nat×Nat×List W.Rt)=>q.2.1) (a,b-1,l) (by (repeat refine And.intro (by first|rfl|exact congrArg (fun z=>some (AV.int .i64 z)) (by first|omega|(dsimp only;omega))) ?_);exact trivial) ⟨.refl _,by omega,by dsimp only;omega⟩ (by (repeat refine And.intro (by first|rfl|exact congrArg (fun z=>some (AV.int .i64 z)) (by first|omega|(dsimp only;omega))) ?_);exact trivial) (by (repeat refine And.intro (by first|rfl|exact congrArg (fun z=>some (AV.int .i64 z)) (by first|omega|(dsimp only;omega))) ?_);exact trivial) (fun _=>⟨rfl,rfl,okArR,by simp [hE]⟩) (fun q hk=>?_)
 obtain⟨q,p,l1⟩:=q
 obtain⟨hp,hq,hq2⟩:=hk
 dsimp only at hp hq hq2 ⊢
 have hl1:=hp.length_eq
 conv=>whnf
 repeat' (first|((first|with_reducible refine Ix.nat _ ?_|refine Pc.sym ?_|refine LdAt.row (e:=rtC) (n:=13) (fun _=>rfl) ⟨0,[]⟩ rfl _ (Nat.zero_add _) (by omega) ?_|refine StAt.el (e:=rtC) (n:=13) (fun _=>rfl) _ rfl rfl _ (Nat.zero_add _) (by first|omega|(simp only [List.length_set];omega)) ?_|(refine Drw.len 16 13 rfl rfl ?_;refine Drw.lateP tabOk [0,1,4,5,6,7,8,9,10,11,12] [2,3] [13,14,15] (by kernel_rfl) (by kernel_rfl) ?_)|refine Ob.mk (by omega) ?_|refine Ob.mk (by unfold W.I64 at *;omega) ?_);conv=>whnf)|((refine Br.d (fun h=>?_) (fun h=>?_))<;>conv=>whnf))
 ·refine⟨(q+1,p-1,_),⟨?_,by dsimp only;omega,by dsimp only;omega⟩,by dsimp only;omega,(by (repeat refine And.intro (by first|rfl|exact congrArg (fun z=>some (AV.int .i64 z)) (by first|omega|(dsimp only;omega))) ?_);exact trivial),(by trivial),(by trivial)⟩
  exact(swap_perm (W.Rt.mk 0 []) (by omega) (by omega)).trans hp
 ·exact FinAt.asis (ars:=[]) [] RvL.nil (by simp) (by show 1≤_;simp) okArR ⟨rfl,l1,hp,rfl⟩
theorem heapC(l:List W.Rt)(r:List Value)(n c:Nat)(x y:Int)(hn:l.length=n)(h0:0≤x)(hab:x<y)(hb:y≤n)(hc:n≤1000000) :
  SortC rtC 13 206 n c l r [I x,I y,cmpV] (·=.tup []):=by
 obtain⟨a,rfl⟩:=Int.eq_ofNat_of_zero_le h0
 obtain⟨b,rfl⟩:=Int.eq_ofNat_of_zero_le (show 0≤y by omega)
 refine enterO tabOk (N:=60) (gs:=[_]) (args:=[_,_,_,_]) Tryz.func206 rfl rfl rfl (nLe rfl) (fun E hE=>?_)
 conv=>whnf
 repeat' ((refine Ob.mk (by unfold W.I64 at *;omega) ?_);conv=>whnf)
 refine LoopAt.rule tabOk [(0,_),(8,_),(9,_),(10,_),(3,_)] (fun (q:Nat×List W.Rt)=>[(11,.int .i64 ((q.1:Int)-1))]) (fun (q:Nat×List W.Rt)=>[.blk (ar rtC q.2 r)]) (fun (q:Nat×List W.Rt)=>q.2.Perm l∧q.1≤b-a) (fun (q:Nat×List W.Rt)=>q.1) ((b-a-1)/2+1,l) (by (repeat refine And.intro (by first|rfl|exact congrArg (fun z=>some (AV.int .i64 z)) (by first|omega|(dsimp only;omega))) ?_);exact trivial) ⟨.refl _,by dsimp only;omega⟩ (by (repeat refine And.intro (by first|rfl|exact congrArg (fun z=>some (AV.int .i64 z)) (by first|omega|(dsimp only;omega))) ?_);exact trivial) (by (repeat refine And.intro (by first|rfl|exact congrArg (fun z=>some (AV.int .i64 z)) (by first|omega|(dsimp only;omega))) ?_);exact trivial) (fun _=>⟨rfl,rfl,okArR,by simp [hE]⟩) (fun q hk=>?_)
 obtain⟨q,l1⟩:=q
 obtain⟨hp,hq⟩:=hk
 dsimp only at hp hq ⊢
 have hl1:=hp.length_eq
 conv=>whnf
 repeat' (first|((refine Ob.mk (by unfold W.I64 at *;omega) ?_);conv=>whnf)|((refine Br.d (fun h=>?_) (fun h=>?_))<;>conv=>whnf))
 ·refine CallS.srt (siftC l1 r n c _ _ _ (by omega) (by omega) (by omega) (by omega) (by omega) hc) rfl (fun _=>rfl) (fun _=>rfl) (fun x l' hx hp'=>?_)
  subst hx
  conv=>whnf
  repeat' ((refine Ob.mk (by unfold W.I64 at *;omega) ?_);conv=>whnf)
  exact⟨(q-1,l'),⟨hp'.trans hp,by dsimp only;omega⟩,by dsimp only;omega,(by (repeat refine And.intro (by first|rfl|exact congrArg (fun z=>some (AV.int .i64 z)) (by first|omega|(dsimp only;omega))) ?_);exact trivial),(by trivial),(by trivial)⟩
 ·refine LoopAt.rule tabOk [(0,_),(8,_),(9,_),(3,_)] (fun (q:Nat×List W.Rt)=>[(12,.int .i64 ((q.1:Int)-1))]) (fun (q:Nat×List W.Rt)=>[.blk (ar rtC q.2 r)]) (fun (q:Nat×List W.Rt)=>q.2.Perm l∧q.1≤b-a) (fun (q:Nat×List W.Rt)=>q.1) (b-a,l1) (by (repeat refine And.intro (by first|rfl|exact congrArg (fun z=>some (AV.int .i64 z)) (by first|omega|(dsimp only;omega))) ?_);exact trivial) ⟨hp,by dsimp only;omega⟩ (by (repeat refine And.intro (by first|rfl|exact congrArg (fun z=>some (AV.int .i64 z)) (by first|omega|(dsimp only;omega))) ?_);exact trivial) (by (repeat refine And.intro (by first|rfl|exact congrArg (fun z=>some (AV.int .i64 z)) (by first|omega|(dsimp only;omega))) ?_);exact trivial) (fun _=>⟨rfl,rfl,okArR,by simp [hE]⟩) (fun q hk=>?_)
  obtain⟨q,l2⟩:=q
  obtain⟨hp2,hq⟩:=hk
  dsimp only at hp2 hq ⊢
  have hl2:=hp2.length_eq
  conv=>whnf
  repeat' (first|((first|with_reducible refine Ix.nat _ ?_|refine Ix.tn (by omega) ?_|refine Pc.sym ?_|refine LdAt.row (e:=rtC) (n:=13) (fun _=>rfl) ⟨0,[]⟩ rfl _ (Nat.zero_add _) (by omega) ?_|refine StAt.el (e:=rtC) (n:=13) (fun _=>rfl) _ rfl rfl _ (Nat.zero_add _) (by first|omega|(simp only [List.length_set];omega)) ?_|(refine Drw.len 20 17 rfl rfl ?_;refine Drw.lateP tabOk [0,1,6,7,8,9,10,11,12,13,14,15,16] [2,3,4,5] [17,18,19] (by kernel_rfl) (by kernel_rfl) ?_)|refine Ob.mk (by omega) ?_|refine Ob.mk (by unfold W.I64 at *;omega) ?_);conv=>whnf)|((refine Br.d (fun h=>?_) (fun h=>?_))<;>conv=>whnf))
  ·refine CallS.srt (siftC _ r n c _ _ _ (by rw [List.length_set,List.length_set];omega) (by omega) (by omega) (by omega) (by omega) hc) rfl (fun _=>rfl) (fun _=>rfl) (fun x l' hx hp'=>?_)
   subst hx
   conv=>whnf
   repeat' ((refine Ob.mk (by unfold W.I64 at *;omega) ?_);conv=>whnf)
   refine⟨(q-1,l'),⟨?_,by dsimp only;omega⟩,by dsimp only;omega,(by (repeat refine And.intro (by first|rfl|exact congrArg (fun z=>some (AV.int .i64 z)) (by first|omega|(dsimp only;omega))) ?_);exact trivial),(by trivial),(by trivial)⟩
   exact hp'.trans ((swap_perm (W.Rt.mk 0 []) (by omega) (by omega)).trans hp2)
  ·exact FinAt.asis (ars:=[]) [] RvL.nil (by simp) (by show 1≤_;simp) okArR ⟨rfl,l2,hp2,rfl⟩
theorem partC(l:List W.Rt)(r:List Value)(n c:Nat)(x y z:Int)(hn:l.length=n)(h0:0≤x)(hz:x≤z)(hz2:z<y)(hb:y≤n)(hc:n≤1000000) :
  SortC rtC 13 212 n c l r [I x,I y,I z,cmpV] (PivIs x y):=by
 obtain⟨a,rfl⟩:=Int.eq_ofNat_of_zero_le h0
 obtain⟨b,rfl⟩:=Int.eq_ofNat_of_zero_le (show 0≤y by omega)
 obtain⟨p,rfl⟩:=Int.eq_ofNat_of_zero_le (show 0≤z by omega)
 refine enterO tabOk (N:=178) (gs:=[_]) (args:=[_,_,_,_,_]) Tryz.func212 rfl rfl rfl (nLe rfl) (fun E hE=>?_)
 conv=>whnf
 repeat' ((first|with_reducible refine Ix.nat _ ?_|refine Pc.sym ?_|refine LdAt.row (e:=rtC) (n:=13) (fun _=>rfl) ⟨0,[]⟩ rfl _ (Nat.zero_add _) (by omega) ?_|refine StAt.el (e:=rtC) (n:=13) (fun _=>rfl) _ rfl rfl _ (Nat.zero_add _) (by first|omega|(simp only [List.length_set];omega)) ?_|(refine Drw.len 16 13 rfl rfl ?_;refine Drw.lateP tabOk [0,1,4,5,6,7,8,9,10,11,12] [2,3] [13,14,15] (by kernel_rfl) (by kernel_rfl) ?_)|refine Ob.mk (by omega) ?_|refine Ob.mk (by unfold W.I64 at *;omega) ?_);conv=>whnf)
 refine LoopAt.rule tabOk [(0,_),(1,_),(13,_),(4,_)] (fun (q:Nat×List W.Rt)=>[(12,.int .i64 (q.1:Int))]) (fun (q:Nat×List W.Rt)=>[.blk (ar rtC q.2 r)]) (fun (q:Nat×List W.Rt)=>q.2.Perm l∧a+1≤q.1∧q.1≤b) (fun (q:Nat×List W.Rt)=>b-q.1) (a+1,_) (by (repeat refine And.intro (by first|rfl|exact congrArg (fun z=>some (AV.int .i64 z)) (by first|omega|(dsimp only;omega))) ?_);exact trivial) ?_ (by (repeat refine And.intro (by first|rfl|exact congrArg (fun z=>some (AV.int .i64 z)) (by first|omega|(dsimp only;omega))) ?_);exact trivial) (by (repeat refine And.intro (by first|rfl|exact congrArg (fun z=>some (AV.int .i64 z)) (by first|omega|(dsimp only;omega))) ?_);exact trivial) (fun _=>⟨rfl,rfl,okArR,by simp [hE]⟩) (fun q hk=>?_)
 ·exact⟨swap_perm (W.Rt.mk 0 []) (by omega) (by omega),by dsimp only;omega,by dsimp only;omega⟩
 obtain⟨i,l1⟩:=q
 obtain⟨hp,hi,hi2⟩:=hk
 dsimp only at hp hi hi2 ⊢
 have hl1:=hp.length_eq
 conv=>whnf
 repeat' (first|((first|with_reducible refine Ix.nat _ ?_|refine Pc.sym ?_|refine LdAt.row (e:=rtC) (n:=13) (fun _=>rfl) ⟨0,[]⟩ rfl _ (Nat.zero_add _) (by omega) ?_|refine Br.pt (by assumption) ?_|refine Br.pf (by assumption) ?_|refine Br.of rfl ?_|refine CallX.pu (orderC _ _) rfl rfl ?_|refine Ob.mk (by omega) ?_|refine Ob.mk (by unfold W.I64 at *;omega) ?_|refine Drw.loose (by kernel_rfl) ?_);conv=>whnf)|((refine Br.d (fun h=>?_) (fun h=>?_))<;>conv=>whnf))
 ·exact⟨(i+1,l1),⟨hp,by dsimp only;omega,by dsimp only;omega⟩,by dsimp only;omega,(by (repeat refine And.intro (by first|rfl|exact congrArg (fun z=>some (AV.int .i64 z)) (by first|omega|(dsimp only;omega))) ?_);exact trivial),(by trivial),(by trivial)⟩
 all_goals
  refine LoopAt.rule tabOk [(0,_),(1,_),(12,_),(4,_)] (fun (q:Nat×List W.Rt)=>[(13,.int .i64 (q.1:Int))]) (fun (q:Nat×List W.Rt)=>[.blk (ar rtC q.2 r)]) (fun (q:Nat×List W.Rt)=>q.2.Perm l∧a≤q.1∧q.1<b) (fun (q:Nat×List W.Rt)=>q.1) (b-1,l1) (by (repeat refine And.intro (by first|rfl|exact congrArg (fun z=>some (AV.int .i64 z)) (by first|omega|(dsimp only;omega))) ?_);exact trivial) ⟨hp,by dsimp only;omega,by dsimp only;omega⟩ (by (repeat refine And.intro (by first|rfl|exact congrArg (fun z=>some (AV.int .i64 z)) (by first|omega|(dsimp only;omega))) ?_);exact trivial) (by (repeat refine And.intro (by first|rfl|exact congrArg (fun z=>some (AV.int .i64 z)) (by first|omega|(dsimp only;omega))) ?_);exact trivial) (fun _=>⟨rfl,rfl,okArR,by simp [hE]⟩) (fun q hk=>?_)
  obtain⟨j,l2⟩:=q
  obtain⟨hp2,hj,hj2⟩:=hk
  dsimp only at hp2 hj hj2 ⊢
  have hl2:=hp2.length_eq
  conv=>whnf
  repeat' (first|((first|with_reducible refine Ix.nat _ ?_|refine Pc.sym ?_|refine LdAt.row (e:=rtC) (n:=13) (fun _=>rfl) ⟨0,[]⟩ rfl _ (Nat.zero_add _) (by omega) ?_|refine StAt.el (e:=rtC) (n:=13) (fun _=>rfl) _ rfl rfl _ (Nat.zero_add _) (by first|omega|(simp only [List.length_set];omega)) ?_|(refine Drw.len 16 13 rfl rfl ?_;refine Drw.lateP tabOk [0,1,4,5,6,7,8,9,10,11,12] [2,3] [13,14,15] (by kernel_rfl) (by kernel_rfl) ?_)|refine Br.pt (by assumption) ?_|refine Br.pf (by assumption) ?_|refine Br.pt (by omega) ?_|refine Br.pf (by omega) ?_|refine Br.of rfl ?_|refine CallX.pu (orderC _ _) rfl rfl ?_|refine Ob.mk (by omega) ?_|refine Ob.mk (by unfold W.I64 at *;omega) ?_|refine Drw.loose (by kernel_rfl) ?_);conv=>whnf)|((first|refine Br.d (fun h=>?_) (fun h=>?_)|refine Br.n (fun h=>?_) (fun h=>?_))<;>conv=>whnf))
  all_goals try exact Exists.intro (j-1,l2) ⟨⟨hp2,by dsimp only;omega,by dsimp only;omega⟩,by dsimp only;omega,(by (repeat refine And.intro (by first|rfl|exact congrArg (fun z=>some (AV.int .i64 z)) (by first|omega|(dsimp only;omega))) ?_);exact trivial),(by trivial),(by trivial)⟩
  all_goals try refine FinAt.asis (ars:=[I _,.bool true]) [] (RvL.pu rfl) (by simp) (by show 1≤_;simp) okArR ⟨⟨j,true,rfl,by omega,by omega⟩,_,(swap_perm (W.Rt.mk 0 []) (by omega) (by omega)).trans hp2,rfl⟩
  all_goals
   refine LoopAt.rule tabOk [(0,_),(1,_),(4,_)] (fun (q:Nat×Nat×List W.Rt)=>[(12,.int .i64 (q.1:Int)),(13,.int .i64 (q.2.1:Int))]) (fun (q:Nat×Nat×List W.Rt)=>[.blk (ar rtC q.2.2 r)]) (fun (q:Nat×Nat×List W.Rt)=>q.2.2.Perm l∧a+1≤q.1∧q.1≤b∧a≤q.2.1∧q.2.1<b) (fun (q:Nat×Nat×List W.Rt)=>q.2.1) (i+1,j-1,_) (by (repeat refine And.intro (by first|rfl|exact congrArg (fun z=>some (AV.int .i64 z)) (by first|omega|(dsimp only;omega))) ?_);exact trivial) ?_ (by (repeat refine And.intro (by first|rfl|exact congrArg (fun z=>some (AV.int .i64 z)) (by first|omega|(dsimp only;omega))) ?_);exact trivial) (by (repeat refine And.intro (by first|rfl|exact congrArg (fun z=>some (AV.int .i64 z)) (by first|omega|(dsimp only;omega))) ?_);exact trivial) (fun _=>⟨rfl,rfl,okArR,by simp [hE]⟩) (fun q hk=>?_)
   ·exact⟨(swap_perm (W.Rt.mk 0 []) (by omega) (by omega)).trans hp2,by dsimp only;omega,by dsimp only;omega,by dsimp only;omega,by dsimp only;omega⟩
   obtain⟨i',j',l3⟩:=q
   obtain⟨hp3,hi',hi2',hj',hj2'⟩:=hk
   dsimp only at hp3 hi' hi2' hj' hj2' ⊢
   have hl3:=hp3.length_eq
   conv=>whnf
   refine LoopAt.rule tabOk [(0,_),(1,_),(13,_),(4,_)] (fun (q:Nat×List W.Rt)=>[(12,.int .i64 (q.1:Int))]) (fun (q:Nat×List W.Rt)=>[.blk (ar rtC q.2 r)]) (fun (q:Nat×List W.Rt)=>q.2.Perm l∧a+1≤q.1∧q.1≤b) (fun (q:Nat×List W.Rt)=>b-q.1) (i',l3) (by (repeat refine And.intro (by first|rfl|exact congrArg (fun z=>some (AV.int .i64 z)) (by first|omega|(dsimp only;omega))) ?_);exact trivial) ⟨hp3,hi',hi2'⟩ (by (repeat refine And.intro (by first|rfl|exact congrArg (fun z=>some (AV.int .i64 z)) (by first|omega|(dsimp only;omega))) ?_);exact trivial) (by (repeat refine And.intro (by first|rfl|exact congrArg (fun z=>some (AV.int .i64 z)) (by first|omega|(dsimp only;omega))) ?_);exact trivial) (fun _=>⟨rfl,rfl,okArR,by simp [hE]⟩) (fun q hk=>?_)
   obtain⟨i2,l4⟩:=q
   obtain⟨hp4,hi3,hi4⟩:=hk
   dsimp only at hp4 hi3 hi4 ⊢
   have hl4:=hp4.length_eq
   conv=>whnf
   repeat' (first|((first|with_reducible refine Ix.nat _ ?_|refine Pc.sym ?_|refine LdAt.row (e:=rtC) (n:=13) (fun _=>rfl) ⟨0,[]⟩ rfl _ (Nat.zero_add _) (by omega) ?_|refine Br.pt (by assumption) ?_|refine Br.pf (by assumption) ?_|refine Br.of rfl ?_|refine CallX.pu (orderC _ _) rfl rfl ?_|refine Ob.mk (by omega) ?_|refine Ob.mk (by unfold W.I64 at *;omega) ?_|refine Drw.loose (by kernel_rfl) ?_);conv=>whnf)|((refine Br.d (fun h=>?_) (fun h=>?_))<;>conv=>whnf))
   ·exact⟨(i2+1,l4),⟨hp4,by dsimp only;omega,by dsimp only;omega⟩,by dsimp only;omega,(by (repeat refine And.intro (by first|rfl|exact congrArg (fun z=>some (AV.int .i64 z)) (by first|omega|(dsimp only;omega))) ?_);exact trivial),(by trivial),(by trivial)⟩
   all_goals
    refine LoopAt.rule tabOk [(0,_),(1,_),(12,_),(4,_)] (fun (q:Nat×List W.Rt)=>[(13,.int .i64 (q.1:Int))]) (fun (q:Nat×List W.Rt)=>[.blk (ar rtC q.2 r)]) (fun (q:Nat×List W.Rt)=>q.2.Perm l∧a≤q.1∧q.1≤j') (fun (q:Nat×List W.Rt)=>q.1) (j',l4) (by (repeat refine And.intro (by first|rfl|exact congrArg (fun z=>some (AV.int .i64 z)) (by first|omega|(dsimp only;omega))) ?_);exact trivial) ⟨hp4,hj',Nat.le_refl _⟩ (by (repeat refine And.intro (by first|rfl|exact congrArg (fun z=>some (AV.int .i64 z)) (by first|omega|(dsimp only;omega))) ?_);exact trivial) (by (repeat refine And.intro (by first|rfl|exact congrArg (fun z=>some (AV.int .i64 z)) (by first|omega|(dsimp only;omega))) ?_);exact trivial) (fun _=>⟨rfl,rfl,okArR,by simp [hE]⟩) (fun q hk=>?_)
    obtain⟨j2,l5⟩:=q
    obtain⟨hp5,hj3,hj4⟩:=hk
    dsimp only at hp5 hj3 hj4 ⊢
    have hl5:=hp5.length_eq
    conv=>whnf
    repeat' (first|((first|with_reducible refine Ix.nat _ ?_|refine Pc.sym ?_|refine LdAt.row (e:=rtC) (n:=13) (fun _=>rfl) ⟨0,[]⟩ rfl _ (Nat.zero_add _) (by omega) ?_|refine StAt.el (e:=rtC) (n:=13) (fun _=>rfl) _ rfl rfl _ (Nat.zero_add _) (by first|omega|(simp only [List.length_set];omega)) ?_|(refine Drw.len 16 13 rfl rfl ?_;refine Drw.lateP tabOk [0,1,4,5,6,7,8,9,10,11,12] [2,3] [13,14,15] (by kernel_rfl) (by kernel_rfl) ?_)|refine Br.pt (by assumption) ?_|refine Br.pf (by assumption) ?_|refine Br.pt (by omega) ?_|refine Br.pf (by omega) ?_|refine Br.of rfl ?_|refine CallX.pu (orderC _ _) rfl rfl ?_|refine Ob.mk (by omega) ?_|refine Ob.mk (by unfold W.I64 at *;omega) ?_|refine Drw.loose (by kernel_rfl) ?_);conv=>whnf)|((first|refine Br.d (fun h=>?_) (fun h=>?_)|refine Br.n (fun h=>?_) (fun h=>?_))<;>conv=>whnf))
    all_goals try exact Exists.intro (j2-1,l5) ⟨⟨hp5,by dsimp only;omega,by dsimp only;omega⟩,by dsimp only;omega,(by (repeat refine And.intro (by first|rfl|exact congrArg (fun z=>some (AV.int .i64 z)) (by first|omega|(dsimp only;omega))) ?_);exact trivial),(by trivial),(by trivial)⟩
    all_goals try refine FinAt.asis (ars:=[I _,.bool false]) [] (RvL.pu rfl) (by simp) (by show 1≤_;simp) okArR ⟨⟨j2,false,rfl,by omega,by omega⟩,_,(swap_perm (W.Rt.mk 0 []) (by omega) (by omega)).trans hp5,rfl⟩
    all_goals
     refine⟨(i2+1,j2-1,_),⟨?_,by dsimp only;omega,by dsimp only;omega,by dsimp only;omega,by dsimp only;omega⟩,by dsimp only;omega,(by (repeat refine And.intro (by first|rfl|exact congrArg (fun z=>some (AV.int .i64 z)) (by first|omega|(dsimp only;omega))) ?_);exact trivial),(by trivial),(by trivial)⟩
     exact(swap_perm (W.Rt.mk 0 []) (by omega) (by omega)).trans hp5
end Y
end Go.Proofs.YtllemifiammnnaaGreat
