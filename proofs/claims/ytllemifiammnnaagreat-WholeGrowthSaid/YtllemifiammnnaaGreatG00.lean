/- Part 0 of the proof. No condition. -/
import Derived.WalkKit
import Derived.ProofKit
import Derived.OpenShut
import Derived.ShutString
import Derived.ChangeOld
import Derived.Below
import Derived.Lib.SmallJoins
import Derived.StillTail
import Derived.Deep.Quiet
import Derived.Lib.QuietBelow
import Derived.Lib.Hide
import Derived.WalkLawsBesides
import Derived.WalkSpells
import Derived.BigQuiet
import Derived.Deep.QuietTactic
import Derived.Deep.MidRow
import Derived.Deep.RegionLaw
import GoSem.Claim
set_option linter.unusedVariables false
set_option linter.unusedSimpArgs false
set_option maxRecDepth 100000
set_option maxHeartbeats 4000000
namespace Go.Proofs.YtllemifiammnnaaGreat
section
open Go.ChangeShapes Go.WideShapes Go.ChangeAt Go.RowKit Go.Deep Go.Joins
section
variable{H:Type}{enc:TypeId×Value→H}{P:Program}{w:World}{base:Nat}{spare:Nat→Bool}{held:Bool}
theorem below_trodAll(hl:laidOutB P=true){W W':World}(hb:Below W.heap.size W W'):∀ {ts:List TypeId} {vs:List Value} {ds:List (DataW H)} {ps:List MemPlace},
  (ts.all fun t=>P.readableRec t&&decide (t<P.types.size))=true→DataW.TrodAll enc P W 0 (fun _=>true) true ts vs ds ps →
  DataW.TrodAll enc P W' 0 (fun b=>decide (b<W.heap.size)) true ts vs ds ps
 |[],[],[],_,_,h=>h
 |[],[],_::_,_,_,h=>h.elim
 |[],_::_,_,_,_,h=>h.elim
 |_::_,[],_,_,_,h=>h.elim
 |_::_,_::_,[],_,_,h=>h.elim
 |t::ts,v::vs,d::ds,ps,ht,h=>by
  obtain⟨p,q,h1,h2,e⟩:=h
  simp only [List.all_cons,Bool.and_eq_true,decide_eq_true_eq] at ht
  obtain⟨m,hm⟩:=h1
  exact⟨p,q,Below.trod hl ht.1.1 ht.1.2 ⟨m,hm⟩ hb (DataW.trod_lt m _ _ _ hm),below_trodAll hl hb ht.2 h2,e⟩
end
end
section
open Go Go.RowKit Go.Sort
section
variable{P:Program}{ops:Array Oper}{md:Region.Mode}{C:World→Prop}
def anyHead(P:Program)(md:Region.Mode)(ops:Array Oper)(C:World→Prop)(n:Nat)(L:Array Bool→Act→Prop):Nat→Array Bool→Act→Prop
 |0,listed,a=>L listed a
 |f+1,listed,a=>Region.ready md ops listed≠[]∧∀ i∈Region.ready md ops listed,i<n∧qOp P ops C i (anyHead P md ops C n L f (listed.setIfInBounds i true)) a
theorem wpAny_of_anyHead{n g:Nat}{L:Array Bool→Act→Prop}{Q':Exit→Act→World→Prop}(hL:∀ listed a w,C w→L listed a→wpAny P md ops Q' g listed a w) :
  ∀ (f:Nat) (listed:Array Bool) (a:Act) (w:World),C w→anyHead P md ops C n L f listed a→wpAny P md ops Q' (f+g) listed a w
 |0,listed,a,w,hC,h=>by rw [Nat.zero_add];exact hL _ _ _ hC h
 |f+1,listed,a,w,hC,h=>by
  rw [show f+1+g=(f+g)+1 by omega]
  exact⟨fun h0=>absurd h0 h.1,fun i hi=>wpOp_of_qOp hC (fun a' w' hw' h'=>wpAny_of_anyHead hL f _ a' w' hw' h') (h.2 i hi).2⟩
theorem anyHead_first{n i:Nat}{oi:Oper}{v:Value}{L:Array Bool→Act→Prop}(hi:ops[i]?=some oi)(hsel:∀ (j:Nat) (o:Oper) cs b,ops[j]?=some o→o.op≠.select cs b)
  (hs:Region.sinkB md ops n=true) (hc:Region.chainB md ops n=true) (hn:n<ops.size) (hin:i<n)
  (hdone:∀ listed a,L listed a→∀ j∈Region.ready md ops listed,n≤j) :
  ∀ (f:Nat) (listed:Array Bool) (a:Act),HeadInv md ops n listed →
   (∀ j oj,ops[j]?=some oj→j≠i→listed.getD j true=false→(∀ e∈oj.after,Region.binds md e=true→e.on≠i)→oi.apart ops oj=true) →
   i∈Region.ready md ops listed→YieldsIn P ops C oi v a →
   anyHead P md ops C n L f (listed.setIfInBounds i true) (a.put oi.dst v)→anyHead P md ops C n L (f+1) listed a:=by
 intro f
 induction f with
 |zero =>
  intro listed a inv _ hr hy H
  have hun:=(mem_ready.1 hr).1
  refine⟨fun h=>(by rw [h] at hr;cases hr),fun j hj=>?_⟩
  have hjn:j<n:=by
   rcases Nat.lt_or_ge j n with h|h
   ·exact h
   ·exact absurd hj (tail_waits hs hc hn inv _ i rfl hin hun j h)
  refine⟨hjn,?_⟩
  by_cases hji:j=i
  ·subst hji;exact hy.qOp hi H
  ·have:=hdone _ _ H j (ready_mono hj hji)
   omega
 |succ f ih =>
  intro listed a inv hfree hr hy H
  have hun:=(mem_ready.1 hr).1
  refine⟨fun h=>(by rw [h] at hr;cases hr),fun j hj=>?_⟩
  have hjn:j<n:=by
   rcases Nat.lt_or_ge j n with h|h
   ·exact h
   ·exact absurd hj (tail_waits hs hc hn inv _ i rfl hin hun j h)
  refine⟨hjn,?_⟩
  by_cases hji:j=i
  ·subst hji;exact hy.qOp hi H
  ·have h1:=(H.2 j (ready_mono hj hji)).2
   obtain⟨hjun,oj,hoj,hall⟩:=mem_ready.1 hj
   have hnot:∀ e∈oj.after,Region.binds md e=true→e.on≠i:=fun e he hb heq=>by
    have h1:=hall e he hb
    rw [heq,getD_both hun] at h1
    cases h1
   have h2:=qOp_put hoj (hfree j oj hoj hji hjun hnot) (fun cs b=>hsel i oi cs b hi) (fun cs b=>hsel j oj cs b hoj) hy h1
   have hfree':∀ k ok,ops[k]?=some ok→k≠i→(listed.setIfInBounds j true).getD k true=false →
     (∀ e∈ok.after,Region.binds md e=true→e.on≠i)→oi.apart ops ok=true:=fun k ok hk hki hun hno=>by
    refine hfree k ok hk hki ?_ hno
    by_cases hjk:j=k
    ·subst hjk;exact hjun
    ·rw [getD_set_ne true hjk] at hun;exact hun
   refine qOp_mono (fun a' h3=>ih (listed.setIfInBounds j true) a' (inv.set hj hjn) hfree' (ready_mono hr (Ne.symm hji)) h3.1 ?_) h2
   rw [Array.setIfInBounds_comm _ _ hji]
   exact h3.2
theorem anyHead_lex{n g:Nat}{Lq:Act→Prop}(hsel:Region.noSelect ops=true)(hs:Region.sinkB md ops n=true)(hc:Region.chainB md ops n=true)(hn:n<ops.size) :
  ∀ (l:List Oper) (k:Nat) (listed:Array Bool) (a:Act),(∀ j,j<l.length→l[j]?=ops[k+j]?)→k+l.length=n→HeadInv md ops n listed →
  Region.lexHead md ops g l.length k listed=true→wpQuiet P ops C Lq l a →
  anyHead P md ops C n (fun listed' a'=>Region.seqB md ops g n listed'=true∧Lq a') l.length listed a
 |[],k,listed,a,_,hk,_,hB,h=>by
  have:k=n:=by simpa using hk
  subst this
  exact⟨by simpa [Region.lexHead] using hB,h⟩
 |o::l,k,listed,a,hl,hk,inv,hB,h=>by
  have h0:ops[k]?=some o:=by simpa using (hl 0 (by simp)).symm
  simp only [List.length_cons,Region.lexHead,Bool.and_eq_true] at hB
  obtain⟨⟨hr,hf⟩,hB'⟩:=hB
  have hkn:k<n:=by simp only [List.length_cons] at hk;omega
  have hr':k∈Region.ready md ops listed:=by simpa using hr
  have hst:qOp P ops C k (wpQuiet P ops C Lq l) a:=by unfold qOp;simp only [h0];exact h
  obtain⟨v,hy,hK⟩:=yieldsIn_of_qOp h0 hst
  exact anyHead_first h0 (Region.noSelect_spec hsel) hs hc hn hkn (fun listed' a' hL=>seqB_ready hL.1) l.length listed a inv (Region.free_spec h0 hf) hr' hy
   (anyHead_lex hsel hs hc hn l (k+1) _ _ (fun j hj=>by have:=hl (j+1) (by simp;omega);simpa [Nat.add_assoc,Nat.add_comm 1 j] using this) (by simp only [List.length_cons] at hk;omega) (inv.set hr' hkn) hB' hK)
theorem wp_region_quiet_tail{id:Nat}{Q:Exit→Act→World→Prop}{a:Act}{w:World}{l:List Oper}(n:Nat)(hm:P.follows .mixedOrders=true)(hB:Region.lexTailB .any l.toArray n=true)
  (hC:C { w with drawn:=w.drawn+1 })
  (h:wpQuiet P l.toArray C (fun a'=>∀ w',C w'→wpList P l.toArray Q (l.drop n) a' w') (l.take n) a):(Code.region id l.toArray true).wp P Q a w:=by
 simp only [Region.lexTailB,Bool.and_eq_true,decide_eq_true_eq] at hB
 obtain⟨⟨⟨⟨hsel,hn⟩,hs⟩,hc⟩,hlex⟩:=hB
 have hn':n<l.length:=by simpa using hn
 have htl:(l.take n).length=n:=by simp;omega
 have hdl:(l.drop n).length=l.toArray.size-n:=by simp
 have inv0:HeadInv .any l.toArray n (Array.replicate l.toArray.size false) :=
  ⟨by simp,fun j oj _ hl=>(by rw [getD_replicate_false] at hl;cases hl),fun t _ ht=>getD_in (by simpa using ht) (getD_replicate_false _ _)⟩
 have H:=anyHead_lex (md:=.any) (C:=C) (g:=l.toArray.size-n) hsel hs hc hn (l.take n) 0 _ a (fun j hj=>by
  have hj':j<n:=by rw [htl] at hj;exact hj
  simp [hj']) (by simpa using htl) inv0 (by rw [htl];exact hlex) h
 refine wp_region_any hm ?_
 have:=wpAny_of_anyHead (Q':=Q) (g:=l.toArray.size-n) (fun listed a' w' hw' hL=>by
  have:=wpAny_of_seq (md:=.any) (Q':=Q) (l.drop n) n listed a' w' (fun j=>by simp [List.getElem?_drop]) (by rw [hdl];exact hL.1) (hL.2 w' hw')
  rwa [hdl] at this) _ _ _ _ hC H
 rw [htl,show n+(l.toArray.size-n)=l.toArray.size by omega] at this
 exact this
def Past(w:World)(w':World):Prop:=Below w.heap.size w w'
theorem Past.draw(w:World):Past w { w with drawn:=w.drawn+1 }:=⟨rfl,rfl,rfl,Nat.le_refl _,fun _ _=>rfl⟩
theorem Past.trans{w w1 w2:World}(h:Past w w1)(h':Below w1.heap.size w1 w2):Past w w2 :=
 ⟨h'.os.trans h.os,h'.tape.trans h.tape,h'.output.trans h.output,Nat.le_trans h.size h'.size,fun k hk=>(h'.block k (Nat.lt_of_lt_of_le hk h.size)).trans (h.block k hk)⟩
theorem cell_grown(w:World)(d:Nat)(os:Array Obj)(b o:Nat)(h:b<w.heap.size):(grow (redrawn w d) os).cell? ⟨b,o,none⟩=w.cell? ⟨b,o,none⟩ :=
 (below_regrown w d os).cell (p:=⟨b,o,none⟩) h
theorem wp_region_past{id:Nat}{Q:Exit→Act→World→Prop}{a:Act}{w:World}{l:List Oper}(hm:P.follows .mixedOrders=true)(hB:Region.lexB .any l.toArray=true)
  (h:(∀ d os b o,b<w.heap.size→(grow (redrawn w d) os).cell? ⟨b,o,none⟩=w.cell? ⟨b,o,none⟩) →
   wpQuiet P l.toArray (fun w'=>∃ p:Regrown,w'=grow (redrawn w p.d) p.os) (fun a'=>∀ w',Past w w'→Q .normal a' w') l a):(Code.region id l.toArray true).wp P Q a w:=by
 have h1:=h (fun d os b o=>cell_grown w d os b o)
 refine wp_region_quiet_below hm hB ?_
 have h2:(fun a'=>∀ w',(∃ p:Regrown,w'=grow (redrawn w p.d) p.os)→Q .normal a' w')=fun a'=>∀ w',Past w w'→Q .normal a' w':=by
  funext a'
  apply propext
  exact⟨fun g w' hp=>g w' (regrown_of_below hp),fun g w' ⟨p,hp⟩=>g w' (hp ▸ below_regrown w p.d p.os)⟩
 rw [h2];exact h1
theorem wp_region_past_tail{id:Nat}{Q:Exit→Act→World→Prop}{a:Act}{w:World}{l:List Oper}(n:Nat)(hm:P.follows .mixedOrders=true)(hB:Region.lexTailB .any l.toArray n=true)
  (h:(∀ d os b o,b<w.heap.size→(grow (redrawn w d) os).cell? ⟨b,o,none⟩=w.cell? ⟨b,o,none⟩) →
   wpQuiet P l.toArray (fun w'=>∃ p:Regrown,w'=grow (redrawn w p.d) p.os) (fun a'=>∀ w',Past w w'→wpList P l.toArray Q (l.drop n) a' w') (l.take n) a):(Code.region id l.toArray true).wp P Q a w:=by
 have h1:=h (fun d os b o=>cell_grown w d os b o)
 refine wp_region_quiet_tail (C:=fun w'=>∃ p:Regrown,w'=grow (redrawn w p.d) p.os) n hm hB ⟨⟨w.drawn+1,#[]⟩,by rw [grow_empty];rfl⟩ ?_
 have h2:(fun a'=>∀ w',(∃ p:Regrown,w'=grow (redrawn w p.d) p.os)→wpList P l.toArray Q (l.drop n) a' w')=fun a'=>∀ w',Past w w'→wpList P l.toArray Q (l.drop n) a' w':=by
  funext a'
  apply propext
  exact⟨fun g w' hp=>g w' (regrown_of_below hp),fun g w' ⟨p,hp⟩=>g w' (hp ▸ below_regrown w p.d p.os)⟩
 rw [h2];exact h1
theorem on_past{w w1 w2:World}(h:Below w.heap.size w w1)(h2:Past w1 w2):Below w.heap.size w w2:=Past.trans h h2
theorem on_set{w w1:World}(h:Below w.heap.size w w1){p:Addr}(hp:w.heap.size≤p.block)(v:Value):Below w.heap.size w (w1.setCell p v):=h.setCell hp v
theorem on_alloc{w w1:World}(h:Below w.heap.size w w1)(o:Obj):Below w.heap.size w (w1.alloc o):=h.alloc h.size o
end
end
section
open Go.ChangeShapes Go.WideShapes Go.RowKit
theorem bdN{B:Nat}{w w':World}(h:Below B w w')(n:Nat):Below B w (w'.drewN n):=⟨h.os,h.tape,h.output,h.size,h.block⟩
theorem bself(w:World)(o:Obj):Below w.heap.size w (w.alloc o):=(Below.refl _ _).alloc (Nat.le_refl _) o
theorem bself2(w:World)(o p:Obj):Below w.heap.size w ((w.alloc o).alloc p):=(bself w o).alloc (by simp) p
theorem bcell{W w1:World}(hb:Below W.heap.size W w1):(∀ b o,b<W.heap.size→w1.cell? ⟨b,o,none⟩=W.cell? ⟨b,o,none⟩)∧(∀ b o,b<W.heap.size→w1.frozen? ⟨b,o,none⟩=W.frozen? ⟨b,o,none⟩)∧(∀ b,b<W.heap.size→b<w1.heap.size) :=
 ⟨fun b o h=>hb.cell (p:=⟨b,o,none⟩) h,fun b o h=>hb.frozen (p:=⟨b,o,none⟩) h,fun _ h=>Nat.lt_of_lt_of_le h hb.size⟩
theorem ret_int{k:IntKind}{a b:Int}(h:a=b):Ending.returned (.int k a)=.returned (.int k b):=by rw [h]
theorem ret_bool{a b:Bool}(h:a=b):Ending.returned (.bool a)=.returned (.bool b):=by rw [h]
end
section
open Go Go.RowKit
structure Bx(w:World)(b:Nat)(cs:List Value):Prop where
 cell:∀ j v,cs[j]?=some v→w.cell? ⟨b,j,none⟩=some v
 free:∀ j,j<cs.length→w.frozen? ⟨b,j,none⟩=false
 lt:b<w.heap.size
theorem Bx.below{w w':World}{B b:Nat}{cs:List Value}(h:Bx w b cs)(hb:Below B w w')(hB:b<B):Bx w' b cs :=
 ⟨fun j v e=>(hb.cell (p:=⟨b,j,none⟩) hB).trans (h.cell j v e),fun j e=>(hb.frozen (p:=⟨b,j,none⟩) hB).trans (h.free j e),Nat.lt_of_lt_of_le h.lt hb.size⟩
theorem Bx.past{w w':World}{b:Nat}{cs:List Value}(h:Bx w b cs)(hb:Below w.heap.size w w'):Bx w' b cs:=h.below hb h.lt
theorem Bx.new(w:World)(cs:List Value)(T:TypeId)(H:Nat)(hH:w.heap.size=H):Bx (w.alloc (.cells cs.toArray T)) H cs:=by
 subst hH
 refine⟨fun j v e=>?_,fun j _=>by simp,by simp⟩
 rw [World.cell?_alloc_new];simpa using e
theorem Bx.old{w:World}{b:Nat}{cs:List Value}(h:Bx w b cs)(o:Obj):Bx (w.alloc o) b cs:=h.past (bself w o)
theorem Bx.other{w:World}{b:Nat}{cs:List Value}(h:Bx w b cs)(b' j:Nat)(v:Value)(hb:b'≠b):Bx (w.setCell ⟨b',j,none⟩ v) b cs:=by
 refine⟨fun i u e=>?_,fun i e=>?_,by simpa using h.lt⟩
 ·rw [World.cell?_setCell_other _ _ _ _ (by intro e;exact hb (congrArg Addr.block e))];exact h.cell i u e
 ·rw [World.frozen?_setCell];exact h.free i e
theorem Bx.set{w:World}{b:Nat}{cs:List Value}(h:Bx w b cs)(j:Nat)(v:Value):Bx (w.setCell ⟨b,j,none⟩ v) b (cs.set j v):=by
 refine⟨fun i u e=>?_,fun i e=>?_,by simpa using h.lt⟩
 ·by_cases hij:j=i
  ·subst hij
   rw [List.getElem?_set_self'] at e
   cases hc:cs[j]? with
   |none=>rw [hc] at e;cases e
   |some x =>
    rw [hc] at e
    cases e
    exact World.cell?_setCell_same' w _ v (by rw [h.cell j x hc];rfl)
  ·rw [List.getElem?_set_ne hij] at e
   rw [World.cell?_setCell_other _ _ _ _ (by intro e;exact hij (congrArg Addr.off e))];exact h.cell i u e
 ·rw [World.frozen?_setCell];exact h.free i (by simpa using e)
theorem Bx.setCells{w:World}{b:Nat}:∀ (pre cs vs:List Value),Bx w b (pre++cs)→vs.length=cs.length→Bx (w.setCells b pre.length vs) b (pre++vs):=by
 intro pre cs vs
 induction vs generalizing w pre cs with
 |nil =>
  intro h e
  have:cs=[]:=List.eq_nil_of_length_eq_zero e.symm
  subst this;exact h
 |cons v vs ih =>
  intro h e
  cases cs with
  |nil=>simp at e
  |cons c cs =>
   have h1:=h.set pre.length v
   have e1:(pre++c::cs).set pre.length v=(pre++[v])++cs:=by simp
   rw [e1] at h1
   have h2:=ih (pre++[v]) cs h1 (by simpa using e)
   rw [List.length_append,List.length_singleton] at h2
   rw [show pre++v::vs=(pre++[v])++vs by simp]
   exact h2
theorem Bx.put{w:World}{b:Nat}{cs:List Value}(h:Bx w b cs)(vs:List Value)(e:vs.length=cs.length):Bx (w.setCells b 0 vs) b vs:=Bx.setCells [] cs vs h e
end
section
open Go Go.RowKit Go.Sort
section
variable{P:Program}
variable{ops:Array Oper}{md:Region.Mode}
def PC(w:World):World→Prop:=fun w'=>∃ p:Regrown,w'=grow (redrawn w p.d) p.os
theorem PC_iff{w w':World}:PC w w'↔Past w w':=⟨fun ⟨p,h⟩=>h ▸ below_regrown w p.d p.os,fun h=>regrown_of_below h⟩
def ptr(b:Nat):Value:=.pointer (some ⟨b,0,none⟩)
theorem wpQuiet_weaken{C:World→Prop}{Q Q':Act→Prop}(h:∀ a,Q a→Q' a):∀ (l:List Oper) (a:Act),wpQuiet P ops C Q l a→wpQuiet P ops C Q' l a
 |[],a,hq=>h a hq
 |o::l,a,hq=>by
  unfold wpQuiet at hq ⊢
  split
  ·rename_i hw
   rw [if_pos hw] at hq
   exact Oper.quiet_mono (fun a'=>wpQuiet_weaken h l a') hq
  ·rename_i hw
   rw [if_neg hw] at hq
   exact wpQuiet_weaken h l _ hq
end
end
section
open Go Go.RowKit Go.Sort
section
variable{P:Program}{ops:Array Oper}{md:Region.Mode}
def pureOp(o:Oper):Bool:=o.guard.isNone&&o.dst.isSome&&(match o.op with|.move _=>true|.assign _=>true|.extract _ _=>true|_=>false)
theorem pure_run(o:Oper)(ρ:Operand→Value)(hp:pureOp o=true):(∃ v,∀ w,(execOp ρ o).runT P w #[]=(.ok (.value v) w,#[]))∨(∃ s,∀ w,(execOp ρ o).runT P w #[]=(.halt (.stuck s) w,#[])):=by
 unfold pureOp at hp
 simp only [Bool.and_eq_true] at hp
 obtain⟨_,hp⟩:=hp
 split at hp
 ·rename_i x h
  refine .inl ⟨ρ x,fun w=>?_⟩
  unfold execOp;simp only [h];rfl
 ·rename_i x h
  refine .inl ⟨ρ x,fun w=>?_⟩
  unfold execOp;simp only [h];rfl
 ·rename_i x i h
  unfold execOp
  simp only [h]
  unfold Instr.extract
  cases ρ x with
  |tuple vs =>
   generalize hz:vs[i]?=z
   cases z with
   |some v=>exact .inl ⟨v,fun w=>by simp only [hz];rfl⟩
   |none=>exact .inr ⟨_,fun w=>by simp only [hz];rfl⟩
  |_=>exact .inr ⟨_,fun w=>by rfl⟩
 ·cases hp
theorem pure_list{o:Oper}{rest:List Oper}{a:Act}{w:World}{Q:Exit→Act→World→Prop}(hp:pureOp o=true)(h:wpList P ops Q (o::rest) a w):∃ v,Yields P ops o v a∧wpList P ops Q rest (a.put o.dst v) w:=by
 have hg:o.guard=none:=by unfold pureOp at hp;simp only [Bool.and_eq_true,Option.isNone_iff_eq_none] at hp;exact hp.1.1
 have hw:Region.wanted o (yielded ops a.tmps)=true:=by simp [Region.wanted,hg]
 unfold wpList at h
 rw [if_pos hw] at h
 have hrun:∀ w,(execOp a.eval o).run P w=((execOp a.eval o).runT P w #[]).1:=fun w=>(Sem.runT_fst _ _ _ _).symm
 rcases pure_run (P:=P) o a.eval hp with ⟨v,hv⟩|⟨s,hs⟩
 ·refine⟨v,.inl ⟨hw,fun w=>by rw [hrun,hv]⟩,?_⟩
  rcases h with h|⟨h,_⟩
  ·unfold Oper.wp at h
   rw [hrun,hv] at h
   exact h
  ·unfold Oper.asks at h
   rw [hv] at h
   simp at h
 ·exfalso
  rcases h with h|⟨h,_⟩
  ·unfold Oper.wp at h
   rw [hrun,hs] at h
   exact h
  ·unfold Oper.asks at h
   rw [hs] at h
   simp at h
def tailB(md:Region.Mode)(ops:Array Oper):List Nat→Array Bool→Bool
 |[],listed=>(Region.ready md ops listed).isEmpty
 |k::ks,listed=>(decide (Region.ready md ops listed=[k])||((Region.ready md ops listed).contains k&&Region.free md ops listed k&&(match ops[k]? with|some o=>pureOp o|none=>false)))&&tailB md ops ks (listed.setIfInBounds k true)
theorem wpAny_of_tail{Q:Exit→Act→World→Prop}(hsel:Region.noSelect ops=true)(hQ:∀ c a d v w,Q (.panic c) (a.put (some d) v) w→Q (.panic c) a w) :
  ∀ (l:List Oper) (ks:List Nat) (listed:Array Bool) (a:Act) (w:World),ks.map (fun k=>ops[k]?)=l.map some→tailB md ops ks listed=true→wpList P ops Q l a w→wpAny P md ops Q l.length listed a w
 |[],[],_,_,_,_,hB,h=>⟨by simpa [tailB] using hB,h⟩
 |[],_::_,_,_,_,hk,_,_=>by simp at hk
 |_::_,[],_,_,_,hk,_,_=>by simp at hk
 |o::l,k::ks,listed,a,w,hk,hB,h=>by
  simp only [List.map_cons,List.cons.injEq] at hk
  obtain⟨h0,hk⟩:=hk
  simp only [tailB,Bool.and_eq_true,Bool.or_eq_true,decide_eq_true_eq,h0] at hB
  obtain⟨hB,hB'⟩:=hB
  rcases hB with hB|⟨⟨hr,hf⟩,hp⟩
  ·refine⟨fun h1=>(by rw [hB] at h1;cases h1),fun i hi=>?_⟩
   rw [hB] at hi
   have hik:i=k:=by simpa using hi
   subst hik
   have hw:wpOp P ops Q i (wpList P ops Q l) a w:=by unfold wpOp;simp only [h0];exact h
   exact wpOp_mono (fun a' w' h'=>wpAny_of_tail hsel hQ l ks _ a' w' hk hB' h') hw
  ·obtain⟨v,hy,hK⟩:=pure_list hp h
   have hd:∃ d,o.dst=some d:=by unfold pureOp at hp;simp only [Bool.and_eq_true] at hp;exact Option.isSome_iff_exists.1 hp.1.2
   obtain⟨d,hd⟩:=hd
   exact wpAny_take h0 hsel hf hr (fun c a w hh=>hQ c a d v w (by rw [← hd];exact hh)) hy (wpAny_of_tail hsel hQ l ks _ _ w hk hB' hK)
def upB(md:Region.Mode)(ops:Array Oper):Nat→Nat→Nat→Bool
 |0,_,_=>false
 |f+1,t,i=>match ops[t]? with
  |some o=>o.after.any fun e=>Region.binds md e&&(e.on==i||upB md ops f e.on i)
  |none=>false
structure HInv(md:Region.Mode)(ops:Array Oper)(listed:Array Bool):Prop where
 size:listed.size=ops.size
 closed:∀ j oj,ops[j]?=some oj→listed.getD j false=true→∀ e∈oj.after,Region.binds md e=true→listed.getD e.on false=true
theorem HInv.set{i:Nat}{listed:Array Bool}(inv:HInv md ops listed)(hi:i∈Region.ready md ops listed):HInv md ops (listed.setIfInBounds i true):=by
 obtain⟨_,oi,hoi,hall⟩:=mem_ready.1 hi
 refine⟨by simp [inv.size],fun j oj hj hl e he hb=>?_⟩
 by_cases hij:i=j
 ·subst hij
  have:oj=oi:=Option.some.inj (hj.symm.trans hoi)
  subst this
  exact getD_set_true (hall e he hb)
 ·rw [getD_set_ne false hij] at hl
  exact getD_set_true (inv.closed j oj hj hl e he hb)
theorem up_listed{listed:Array Bool}(inv:HInv md ops listed):∀ (f t i:Nat),upB md ops f t i=true→listed.getD t false=true→listed.getD i false=true
 |0,_,_,h,_=>by simp [upB] at h
 |f+1,t,i,h,hl=>by
  unfold upB at h
  split at h
  ·rename_i o ho
   obtain⟨e,he,hb⟩:=Array.any_eq_true'.1 h
   simp only [Bool.and_eq_true,Bool.or_eq_true,beq_iff_eq] at hb
   have h1:=inv.closed t o ho hl e he hb.1
   rcases hb.2 with h2|h2
   ·rw [← h2];exact h1
   ·exact up_listed inv f e.on i h2 h1
  ·cases h
theorem up_ready{listed:Array Bool}(inv:HInv md ops listed){f t i:Nat}(h:upB md ops f t i=true)(hr:t∈Region.ready md ops listed):listed.getD i false=true:=by
 obtain⟨_,o,ho,hall⟩:=mem_ready.1 hr
 cases f with
 |zero=>simp [upB] at h
 |succ f =>
  unfold upB at h
  simp only [ho] at h
  obtain⟨e,he,hb⟩:=Array.any_eq_true'.1 h
  simp only [Bool.and_eq_true,Bool.or_eq_true,beq_iff_eq] at hb
  have h1:=hall e he hb.1
  rcases hb.2 with h2|h2
  ·rw [← h2];exact h1
  ·exact up_listed inv f e.on i h2 h1
def upAll(md:Region.Mode)(ops:Array Oper)(h:Nat)(ia:Option Nat):Bool :=
 (List.range ops.size).all fun t=>decide (t<h)||(some t==ia)||(List.range h).all fun i=>upB md ops ops.size t i
theorem upAll_wait{listed:Array Bool}{h:Nat}{ia:Option Nat}(hu:upAll md ops h ia=true)(inv:HInv md ops listed){i t:Nat}(hi:i<h)(hun:listed.getD i true=false)(hr:t∈Region.ready md ops listed)(hta:some t≠ia):t<h:=by
 obtain⟨_,o,ho,_⟩:=mem_ready.1 hr
 have hlt:t<ops.size:=(Array.getElem?_eq_some_iff.1 ho).1
 have h1:=List.all_eq_true.1 hu t (List.mem_range.2 hlt)
 simp only [Bool.or_eq_true,decide_eq_true_eq,beq_iff_eq] at h1
 rcases h1 with (h1|h1)|h1
 ·exact h1
 ·exact absurd h1 hta
 ·have h2:=up_ready inv (List.all_eq_true.1 h1 i (List.mem_range.2 hi)) hr
  rw [getD_both hun] at h2
  cases h2
theorem anyHead_first2{C:World→Prop}{n i:Nat}{ia:Option Nat}{oi:Oper}{v:Value}{L:Array Bool→Act→Prop}(hi:ops[i]?=some oi)(hsel:∀ (j:Nat) (o:Oper) cs b,ops[j]?=some o→o.op≠.select cs b)
  (hu:upAll md ops n ia=true) (hin:i<n) (hdone:∀ listed a,L listed a→∀ j∈Region.ready md ops listed,n≤j) :
  ∀ (f:Nat) (listed:Array Bool) (a:Act),HInv md ops listed→(∀ x,ia=some x→listed.getD x true=true) →
   (∀ j oj,ops[j]?=some oj→j≠i→listed.getD j true=false→(∀ e∈oj.after,Region.binds md e=true→e.on≠i)→oi.apart ops oj=true) →
   i∈Region.ready md ops listed→YieldsIn P ops C oi v a →
   anyHead P md ops C n L f (listed.setIfInBounds i true) (a.put oi.dst v)→anyHead P md ops C n L (f+1) listed a:=by
 intro f
 have early:∀ listed,HInv md ops listed→(∀ x,ia=some x→listed.getD x true=true)→listed.getD i true=false→∀ j∈Region.ready md ops listed,j<n:=fun listed inv hx hun j hj=>by
  refine upAll_wait hu inv hin hun hj (fun e=>?_)
  have h1:=hx j e.symm
  rw [(mem_ready.1 hj).1] at h1
  cases h1
 induction f with
 |zero =>
  intro listed a inv hx _ hr hy H
  have hun:=(mem_ready.1 hr).1
  refine⟨fun h=>(by rw [h] at hr;cases hr),fun j hj=>?_⟩
  have hjn:=early listed inv hx hun j hj
  refine⟨hjn,?_⟩
  by_cases hji:j=i
  ·subst hji;exact hy.qOp hi H
  ·have:=hdone _ _ H j (ready_mono hj hji)
   omega
 |succ f ih =>
  intro listed a inv hx hfree hr hy H
  have hun:=(mem_ready.1 hr).1
  refine⟨fun h=>(by rw [h] at hr;cases hr),fun j hj=>?_⟩
  have hjn:=early listed inv hx hun j hj
  refine⟨hjn,?_⟩
  by_cases hji:j=i
  ·subst hji;exact hy.qOp hi H
  ·have h1:=(H.2 j (ready_mono hj hji)).2
   obtain⟨hjun,oj,hoj,hall⟩:=mem_ready.1 hj
   have hnot:∀ e∈oj.after,Region.binds md e=true→e.on≠i:=fun e he hb heq=>by
    have h1:=hall e he hb
    rw [heq,getD_both hun] at h1
    cases h1
   have h2:=qOp_put hoj (hfree j oj hoj hji hjun hnot) (fun cs b=>hsel i oi cs b hi) (fun cs b=>hsel j oj cs b hoj) hy h1
   have hfree':∀ k ok,ops[k]?=some ok→k≠i→(listed.setIfInBounds j true).getD k true=false →
     (∀ e∈ok.after,Region.binds md e=true→e.on≠i)→oi.apart ops ok=true:=fun k ok hk hki hun hno=>by
    refine hfree k ok hk hki ?_ hno
    by_cases hjk:j=k
    ·subst hjk;exact hjun
    ·rw [getD_set_ne true hjk] at hun;exact hun
   have hx':∀ x,ia=some x→(listed.setIfInBounds j true).getD x true=true:=fun x hxe=>by
    by_cases e:j=x
    ·subst e;simp [Array.getD]
    ·rw [getD_set_ne true e];exact hx x hxe
   refine qOp_mono (fun a' h3=>ih (listed.setIfInBounds j true) a' (inv.set hj) hx' hfree' (ready_mono hr (Ne.symm hji)) h3.1 ?_) h2
   rw [Array.setIfInBounds_comm _ _ hji]
   exact h3.2
def headB(md:Region.Mode)(ops:Array Oper)(ks:List Nat):Nat→Nat→Array Bool→Bool
 |0,k,listed=>(Region.ready md ops listed).all (fun j=>decide (k≤j))&&tailB md ops ks listed
 |f+1,k,listed=>(Region.ready md ops listed).contains k&&Region.free md ops listed k&&headB md ops ks f (k+1) (listed.setIfInBounds k true)
theorem anyHead_lex2{C:World→Prop}{n:Nat}{ia:Option Nat}{ks:List Nat}{Lq:Act→Prop}(hsel:Region.noSelect ops=true)(hu:upAll md ops n ia=true) :
  ∀ (l:List Oper) (k:Nat) (listed:Array Bool) (a:Act),(∀ j,j<l.length→l[j]?=ops[k+j]?)→k+l.length=n→HInv md ops listed→(∀ x,ia=some x→listed.getD x true=true) →
  headB md ops ks l.length k listed=true→wpQuiet P ops C Lq l a →
  anyHead P md ops C n (fun listed' a'=>((Region.ready md ops listed').all (fun j=>decide (n≤j))&&tailB md ops ks listed')=true∧Lq a') l.length listed a
 |[],k,listed,a,_,hk,_,_,hB,h=>by
  have:k=n:=by simpa using hk
  subst this
  exact⟨by simpa [headB] using hB,h⟩
 |o::l,k,listed,a,hl,hk,inv,hx,hB,h=>by
  have h0:ops[k]?=some o:=by simpa using (hl 0 (by simp)).symm
  simp only [List.length_cons,headB,Bool.and_eq_true] at hB
  obtain⟨⟨hr,hf⟩,hB'⟩:=hB
  have hkn:k<n:=by simp only [List.length_cons] at hk;omega
  have hr':k∈Region.ready md ops listed:=by simpa using hr
  have hst:qOp P ops C k (wpQuiet P ops C Lq l) a:=by unfold qOp;simp only [h0];exact h
  obtain⟨v,hy,hK⟩:=yieldsIn_of_qOp h0 hst
  exact anyHead_first2 h0 (Region.noSelect_spec hsel) hu hkn (fun listed' a' hL j hj=>by
    have h1:=hL.1
    simp only [Bool.and_eq_true,List.all_eq_true,decide_eq_true_eq] at h1
    exact h1.1 j hj) l.length listed a inv hx (Region.free_spec h0 hf) hr' hy
   (anyHead_lex2 hsel hu l (k+1) _ _ (fun j hj=>by have:=hl (j+1) (by simp;omega);simpa [Nat.add_assoc,Nat.add_comm 1 j] using this) (by simp only [List.length_cons] at hk;omega) (inv.set hr')
    (fun x hxe=>by
     by_cases e:k=x
     ·subst e;simp [Array.getD]
     ·rw [getD_set_ne true e];exact hx x hxe) hB' hK)
def looseB(ops:Array Oper)(h:Nat):Bool :=
 Region.noSelect ops&&decide (h≤ops.size)&&upAll .any ops h none&&headB .any ops (List.range' h (ops.size-h)) h 0 (Array.replicate ops.size false)
theorem range_map(l:List Oper)(h:Nat):(List.range' h (l.length-h)).map (fun k=>l.toArray[k]?)=(l.drop h).map some:=by
 apply List.ext_getElem
 ·simp
 ·intro i h1 h2
  simp at h1 h2 ⊢
theorem wp_region_loose{id:Nat}{Q:Exit→Act→World→Prop}{a:Act}{w:World}{l:List Oper}(h:Nat)(hm:P.follows .mixedOrders=true)(hB:looseB l.toArray h=true)
  (hQ:∀ c a d v w,Q (.panic c) (a.put (some d) v) w→Q (.panic c) a w)
  (H:(∀ d os b o,b<w.heap.size→(grow (redrawn w d) os).cell? ⟨b,o,none⟩=w.cell? ⟨b,o,none⟩) →
   wpQuiet P l.toArray (fun w'=>∃ p:Regrown,w'=grow (redrawn w p.d) p.os) (fun a'=>∀ w',Past w w'→wpList P l.toArray Q (l.drop h) a' w') (l.take h) a):(Code.region id l.toArray true).wp P Q a w:=by
 simp only [looseB,Bool.and_eq_true,decide_eq_true_eq] at hB
 obtain⟨⟨⟨hsel,hh⟩,hu⟩,hlex⟩:=hB
 have hh':h≤l.length:=by simpa using hh
 have htl:(l.take h).length=h:=by simp;omega
 have inv0:HInv .any l.toArray (Array.replicate l.toArray.size false):=⟨by simp,fun j oj _ hl=>(by rw [getD_replicate_false] at hl;cases hl)⟩
 have H1:=H (fun d os b o=>cell_grown w d os b o)
 have H2:=anyHead_lex2 (P:=P) (md:=.any) (ks:=List.range' h (l.toArray.size-h)) (n:=h) (ia:=none) hsel hu (l.take h) 0 _ a (fun j hj=>by
  have hj':j<h:=by rw [htl] at hj;exact hj
  simp [hj']) (by simpa using htl) inv0 (fun x hx=>by cases hx) (by rw [htl];exact hlex) H1
 refine wp_region_any hm ?_
 have:=wpAny_of_anyHead (Q':=Q) (g:=l.toArray.size-h) (fun listed a' w' hw' hL=>by
  have h1:=hL.1
  simp only [Bool.and_eq_true] at h1
  have:=wpAny_of_tail (P:=P) (md:=.any) (Q:=Q) hsel hQ (l.drop h) (List.range' h (l.toArray.size-h)) listed a' w' (by simpa using range_map l h) h1.2 (hL.2 w' (PC_iff.1 hw'))
  simpa using this) _ _ _ _ (PC_iff.2 (Past.draw w)) H2
 rw [htl,show h+(l.toArray.size-h)=l.toArray.size by omega] at this
 exact this
end
end
section
open Go Go.RowKit
structure Rx(w:World)(b off:Nat)(cs:List Value):Prop where
 cell:∀ j v,cs[j]?=some v→w.cell? ⟨b,off+j,none⟩=some v
 lt:b<w.heap.size
theorem Rx.below{w w':World}{B b off:Nat}{cs:List Value}(h:Rx w b off cs)(hb:Below B w w')(hB:b<B):Rx w' b off cs :=
 ⟨fun j v e=>(hb.cell (p:=⟨b,off+j,none⟩) hB).trans (h.cell j v e),Nat.lt_of_lt_of_le h.lt hb.size⟩
theorem Rx.past{w w':World}{b off:Nat}{cs:List Value}(h:Rx w b off cs)(hb:Below w.heap.size w w'):Rx w' b off cs:=h.below hb h.lt
theorem Rx.c0{w:World}{b off:Nat}{c:Value}{cs:List Value}(h:Rx w b off (c::cs)):w.cell? ⟨b,off,none⟩=some c:=h.cell 0 _ rfl
structure RdC(w:World)(A:Option Addr)(n sz:Nat)(f:Nat→List Value):Prop where
 at_:0<n→∃ b off,A=some ⟨b,off,none⟩∧b<w.heap.size∧∀ i,i<n→Rx w b (off+i*sz) (f i)
theorem RdC.below{w w':World}{A:Option Addr}{n sz:Nat}{f:Nat→List Value}(h:RdC w A n sz f)(hb:Below w.heap.size w w'):RdC w' A n sz f :=
 ⟨fun h0=>let ⟨b,off,e,hlt,hx⟩:=h.at_ h0;⟨b,off,e,Nat.lt_of_lt_of_le hlt hb.size,fun i hi=>(hx i hi).past hb⟩⟩
theorem RdC.belowB{w w':World}{B:Nat}{A:Option Addr}{n sz:Nat}{f:Nat→List Value}(h:RdC w A n sz f)(hb:Below B w w')(hB:w.heap.size≤B):RdC w' A n sz f :=
 h.below (hb.mono hB)
end
section
open Go Go.ChangeShapes Go.WideShapes Go.RowKit
def OwnE(w:World)(base:Nat)(E:TypeId)(sz:Nat)(A:Option Addr)(n c:Nat)(xs:List Value):Prop:=w.ownsRow base E sz (.slice A n c) n xs
theorem ownsRow_info{w:World}{base:Nat}{E:TypeId}{sz:Nat}{A:Option Addr}{n c:Nat}{xs:List Value}(h:OwnE w base E sz A n c xs) :
  xs.length=n*sz∧((A=none∧n=0∧c=0)∨∃ g cur,A=some ⟨g,0,none⟩∧base≤g∧w.heap[g]?=some (.cells cur E (0,0))∧n≤c∧c≤maxLen∧cur.size=c*sz∧cur.toList.take (n*sz)=xs):=by
 obtain⟨h1,h2⟩:=h
 refine⟨h1,?_⟩
 rcases h2 with ⟨hv,hn⟩|⟨g,cap,cur,hv,hr⟩
 ·simp only [Value.slice.injEq] at hv
  exact .inl ⟨hv.1,hn,hv.2.2⟩
 ·simp only [Value.slice.injEq] at hv
  obtain⟨e1,_,e2⟩:=hv
  subst e2
  exact .inr ⟨g,cur,e1,hr⟩
theorem OwnE.cap{w:World}{base:Nat}{E:TypeId}{sz:Nat}{A:Option Addr}{n c:Nat}{xs:List Value}(h:OwnE w base E sz A n c xs):n≤c∧c≤maxLen:=by
 rcases(ownsRow_info h).2 with ⟨_,h1,h2⟩|⟨g,cur,_,_,_,h1,h2,_⟩
 ·rw [h1,h2];simp
 ·exact⟨h1,h2⟩
theorem OwnE.at_{w:World}{base:Nat}{E:TypeId}{sz:Nat}{A:Option Addr}{n c:Nat}{xs:List Value}(h:OwnE w base E sz A n c xs)(h0:0<n) :
  ∃ g,A=some ⟨g,0,none⟩∧base≤g∧g<w.heap.size∧(∀ j v,xs[j]?=some v→w.cell? ⟨g,j,none⟩=some v)∧∀ j,w.frozen? ⟨g,j,none⟩=false:=by
 rcases(ownsRow_info h).2 with ⟨_,h1,_⟩|⟨g,cur,e,hb,hg,h1,h2,h3,h4⟩
 ·omega
 ·have hlt:g<w.heap.size:=by
   rcases Nat.lt_or_ge g w.heap.size with h|h
   ·exact h
   ·rw [Array.getElem?_eq_none h] at hg;cases hg
  refine⟨g,e,hb,hlt,fun j v hj=>?_,fun j=>by simp [World.frozen?,hg]⟩
  have hj':cur.toList[j]?=some v:=by
   rw [← h4,List.getElem?_take] at hj
   split at hj
   ·exact hj
   ·cases hj
  simp [World.cell?,hg]
  simpa using hj'
theorem OwnE.nil(w:World)(base:Nat)(E:TypeId)(sz:Nat):OwnE w base E sz none 0 0 []:=World.ownsRow_nil w base _ _
section
variable{P:Program}{S E:TypeId}{sz bytes:Nat}{z:Value}
end
end
section
namespace W
def I64(x:Int):Prop:=-9223372036854775808≤x∧x≤9223372036854775807
instance (x:Int):Decidable (I64 x):=by unfold I64;infer_instance
def fit(x:Int):Int:=if I64 x then x else 0
def fitB(x:Int):Bool:=decide (I64 x)
theorem fit_ok{x:Int}(h:I64 x):fit x=x:=by unfold fit;rw [if_pos h]
theorem fitB_ok{x:Int}(h:I64 x):fitB x=true:=by unfold fitB;simpa using h
theorem fit_no{x:Int}(h:¬ I64 x):fit x=0:=by unfold fit;rw [if_neg h]
theorem fitB_no{x:Int}(h:¬ I64 x):fitB x=false:=by unfold fitB;simpa using h
def sat(x:Int):Int:=if I64 x then x else if x<0 then -9223372036854775808 else 9223372036854775807
theorem sat_ok{x:Int}(h:I64 x):sat x=x:=by unfold sat;rw [if_pos h]
def mid(a b:Int):Int:=(a+b)/2
def abs(a:Int):Int:=if a<0 then -a else a
def clamp(x lo hi:Int):Int:=max lo (min x hi)
structure Sp where
 lo:Int
 hi:Int
deriving DecidableEq
def Sp.right(s:Sp):Prop:=s.lo≤s.hi
instance (s:Sp):Decidable s.right:=by unfold Sp.right;infer_instance
def Sp.ok(s:Sp):Prop:=I64 s.lo∧I64 s.hi
def both(lo hi:Int)(h:Prop)[Decidable h]:Sp×Bool:=if h then (⟨lo,hi⟩,true) else (⟨0,0⟩,false)
def Sp.add(s t:Sp):Sp×Bool:=both (s.lo+t.lo) (s.hi+t.hi) (s.right∧t.right∧I64 (s.lo+t.lo)∧I64 (s.hi+t.hi))
def Sp.sub(s t:Sp):Sp×Bool:=both (s.lo-t.hi) (s.hi-t.lo) (s.right∧t.right∧I64 (s.lo-t.hi)∧I64 (s.hi-t.lo))
def Sp.grow(s:Sp)(far:Int):Sp×Bool:=both (s.lo-far) (s.hi+far) (s.right∧I64 (s.lo-far)∧I64 (s.hi+far)∧s.lo-far≤s.hi+far)
def Sp.meet(s t:Sp):Sp×Bool:=both (max s.lo t.lo) (min s.hi t.hi) (max s.lo t.lo≤min s.hi t.hi)
def Sp.hull(s t:Sp):Sp:=if ¬ s.right then t else if ¬ t.right then s else ⟨min s.lo t.lo,max s.hi t.hi⟩
def Sp.has(s:Sp)(x:Int):Bool:=decide (s.lo≤x∧x≤s.hi)
def Sp.in_(s t:Sp):Bool:=decide (¬ s.right∨t.lo≤s.lo∧s.hi≤t.hi)
def Sp.width(s:Sp):Int:=if s.right then s.hi-s.lo else 0
def Sp.mid(s:Sp):Int:=W.mid s.lo s.hi
end W
end
namespace Y
open Go Go.RowKit Go.Sort
theorem nLe{n m:Nat}(h:Nat.ble n m=true):n≤m:=Nat.le_of_ble_eq_true h
inductive AV where
 |int (k:IntKind) (n:Int)
 |bool (b:Bool)
 |raw (v:Value)
 |emp
 |agg (l:List AV)
 |tup (l:List AV)
 |lst (sz n:Nat) (f:Nat→List AV)
 |ptr (l:List AV)
 |fn (f:Nat) (a b:List AV)
 |own (i off:Nat)
 |at_ (i off:Nat)
 |sl (i off sz n c:Nat)
 |gro (i n:Nat)
 |mref (i:Nat)
instance:Inhabited AV:=⟨.emp⟩
mutual
def P1(S:Nat→Prop)(w:World):AV→Value→Prop
 |.int k n,v=>v=.int k n
 |.bool b,v=>v=.bool b
 |.raw u,v=>v=u
 |.emp,v=>v=.slice none 0 0
 |.agg l,v=>∃ vs,v=.agg ⟨vs⟩∧PL S w l vs
 |.tup l,v=>∃ vs,v=.tuple ⟨vs⟩∧PL S w l vs
 |.lst sz n f,v=>∃ A c,v=.slice A n c∧n≤c∧c≤maxLen∧(0<n→∃ b o,A=some ⟨b,o,none⟩∧S b∧b<w.heap.size∧∀ i,i<n→∃ cs,PL S w (f i) cs∧cs.length=sz∧Rx w b (o+i*sz) cs)
 |.ptr l,v=>∃ b o cs,v=.pointer (some ⟨b,o,none⟩)∧S b∧PL S w l cs∧Rx w b o cs
 |.fn f a b,v=>∃ va vb,v=.func (.func f) ⟨va⟩ ⟨vb⟩∧PL S w a va∧PL S w b vb
 |.own _ _,_=>False
 |.at_ _ _,_=>False
 |.sl _ _ _ _ _,_=>False
 |.gro _ _,_=>False
 |.mref _,_=>False
def PL(S:Nat→Prop)(w:World):List AV→List Value→Prop
 |[],vs=>vs=[]
 |a::l,vs=>∃ v r,vs=v::r∧P1 S w a v∧PL S w l r
end
theorem Rx.keep{w w':World}{b o:Nat}{cs:List Value}(h:Rx w b o cs)(hs:w.heap.size≤w'.heap.size)(e:w'.heap[b]?=w.heap[b]?):Rx w' b o cs :=
 ⟨fun j v ej=>(World.cell?_of_block (a:=⟨b,o+j,none⟩) e).trans (h.cell j v ej),Nat.lt_of_lt_of_le h.lt hs⟩
structure Kp(S S':Nat→Prop)(w w':World):Prop where
 size:w.heap.size≤w'.heap.size
 imp:∀ b,S b→S' b
 block:∀ b,b<w.heap.size→S b→w'.heap[b]?=w.heap[b]?
theorem Kp.past{S:Nat→Prop}{w w':World}(h:Past w w'):Kp S S w w':=⟨h.size,fun _ h=>h,fun b hb _=>h.block b hb⟩
mutual
theorem P1.kp{S S':Nat→Prop}{w w':World}(hk:Kp S S' w w'):∀ {a:AV} {v:Value},P1 S w a v→P1 S' w' a v
 |.int k n,v,h=>h
 |.bool b,v,h=>h
 |.raw u,v,h=>h
 |.emp,v,h=>h
 |.agg l,v,⟨vs,e,h⟩=>⟨vs,e,PL.kp hk h⟩
 |.tup l,v,⟨vs,e,h⟩=>⟨vs,e,PL.kp hk h⟩
 |.lst sz n f,v,⟨A,c,e,h1,h2,h3⟩=>⟨A,c,e,h1,h2,fun h0=>by
   obtain⟨b,o,g1,g2,g3,g4⟩:=h3 h0
   exact⟨b,o,g1,hk.imp b g2,Nat.lt_of_lt_of_le g3 hk.size,fun i hi=>by
    obtain⟨cs,q1,q2,q3⟩:=g4 i hi
    exact⟨cs,PL.kp hk q1,q2,Rx.keep q3 hk.size (hk.block b g3 g2)⟩⟩⟩
 |.ptr l,v,⟨b,o,cs,e,h1,h2,h3⟩=>⟨b,o,cs,e,hk.imp b h1,PL.kp hk h2,Rx.keep h3 hk.size (hk.block b h3.lt h1)⟩
 |.fn f a b,v,⟨va,vb,e,h1,h2⟩=>⟨va,vb,e,PL.kp hk h1,PL.kp hk h2⟩
 |.own _ _,_,h=>h
 |.at_ _ _,_,h=>h
 |.sl _ _ _ _ _,_,h=>h
 |.gro _ _,_,h=>h
 |.mref _,_,h=>h
theorem PL.kp{S S':Nat→Prop}{w w':World}(hk:Kp S S' w w'):∀ {l:List AV} {vs:List Value},PL S w l vs→PL S' w' l vs
 |[],vs,h=>h
 |a::l,vs,⟨v,r,e,h1,h2⟩=>⟨v,r,e,P1.kp hk h1,PL.kp hk h2⟩
end
def pu1:AV→Bool
 |.own _ _=>false
 |.at_ _ _=>false
 |.sl _ _ _ _ _=>false
 |.gro _ _=>false
 |.mref _=>false
 |_=>true
mutual
def pu:AV→Bool
 |.own _ _=>false
 |.at_ _ _=>false
 |.sl _ _ _ _ _=>false
 |.gro _ _=>false
 |.mref _=>false
 |.agg l=>puL l
 |.tup l=>puL l
 |.fn _ a b=>puL a&&puL b
 |_=>true
def puL:List AV→Bool
 |[]=>true
 |a::l=>pu a&&puL l
end
mutual
def flat:AV→Bool
 |.int _ _=>true
 |.bool _=>true
 |.raw _=>true
 |.emp=>true
 |.agg l=>flatL l
 |.tup l=>flatL l
 |.fn _ a b=>flatL a&&flatL b
 |_=>false
def flatL:List AV→Bool
 |[]=>true
 |a::l=>flat a&&flatL l
end
mutual
def val:AV→Value
 |.int k n=>.int k n
 |.bool b=>.bool b
 |.raw v=>v
 |.emp=>.slice none 0 0
 |.agg l=>.agg ⟨valL l⟩
 |.tup l=>.tuple ⟨valL l⟩
 |.fn f a b=>.func (.func f) ⟨valL a⟩ ⟨valL b⟩
 |_=>.nilFunc
def valL:List AV→List Value
 |[]=>[]
 |a::l=>val a::valL l
end
mutual
theorem flat_iff{S:Nat→Prop}{w:World}:∀ {a:AV} {v:Value},flat a=true→(P1 S w a v↔v=val a)
 |.int k n,v,h=>by simp [P1,val]
 |.bool b,v,h=>by simp [P1,val]
 |.raw u,v,h=>by simp [P1,val]
 |.emp,v,h=>by simp [P1,val]
 |.agg l,v,h=>by
  simp only [flat] at h
  simp only [P1,val]
  exact⟨fun ⟨vs,e,h'⟩=>by rw [e,(flatL_iff h).1 h'],fun e=>⟨_,e,(flatL_iff h).2 rfl⟩⟩
 |.tup l,v,h=>by
  simp only [flat] at h
  simp only [P1,val]
  exact⟨fun ⟨vs,e,h'⟩=>by rw [e,(flatL_iff h).1 h'],fun e=>⟨_,e,(flatL_iff h).2 rfl⟩⟩
 |.fn f a b,v,h=>by
  simp only [flat,Bool.and_eq_true] at h
  simp only [P1,val]
  exact⟨fun ⟨va,vb,e,h1,h2⟩=>by rw [e,(flatL_iff h.1).1 h1,(flatL_iff h.2).1 h2],fun e=>⟨_,_,e,(flatL_iff h.1).2 rfl,(flatL_iff h.2).2 rfl⟩⟩
 |.lst _ _ _,_,h=>by simp [flat] at h
 |.ptr _,_,h=>by simp [flat] at h
 |.own _ _,_,h=>by simp [flat] at h
 |.at_ _ _,_,h=>by simp [flat] at h
 |.sl _ _ _ _ _,_,h=>by simp [flat] at h
 |.gro _ _,_,h=>by simp [flat] at h
 |.mref _,_,h=>by simp [flat] at h
theorem flatL_iff{S:Nat→Prop}{w:World}:∀ {l:List AV} {vs:List Value},flatL l=true→(PL S w l vs↔vs=valL l)
 |[],vs,h=>by simp [PL,valL]
 |a::l,vs,h=>by
  simp only [flatL,Bool.and_eq_true] at h
  simp only [PL,valL]
  exact⟨fun ⟨v,r,e,h1,h2⟩=>by rw [e,(flat_iff h.1).1 h1,(flatL_iff h.2).1 h2],fun e=>⟨_,_,e,(flat_iff h.1).2 rfl,(flatL_iff h.2).2 rfl⟩⟩
end
mutual
theorem flat_pu:∀ {a:AV},flat a=true→pu a=true
 |.int _ _,_=>rfl
 |.bool _,_=>rfl
 |.raw _,_=>rfl
 |.emp,_=>rfl
 |.agg l,h=>flatL_pu h
 |.tup l,h=>flatL_pu h
 |.fn f a b,h=>by
  simp only [flat,Bool.and_eq_true] at h
  simp only [pu,Bool.and_eq_true]
  exact⟨flatL_pu h.1,flatL_pu h.2⟩
 |.lst _ _ _,h=>by simp [flat] at h
 |.ptr _,h=>by simp [flat] at h
 |.own _ _,h=>by simp [flat] at h
 |.at_ _ _,h=>by simp [flat] at h
 |.sl _ _ _ _ _,h=>by simp [flat] at h
 |.gro _ _,h=>by simp [flat] at h
 |.mref _,h=>by simp [flat] at h
theorem flatL_pu:∀ {l:List AV},flatL l=true→puL l=true
 |[],_=>rfl
 |a::l,h=>by
  simp only [flatL,Bool.and_eq_true] at h
  simp only [puL,Bool.and_eq_true]
  exact⟨flat_pu h.1,flatL_pu h.2⟩
end
structure Loc where
 fix:Bool
 blk:Option Nat
 v:Value
 n:Nat
instance:Inhabited Loc:=⟨⟨false,none,.nilFunc,0⟩⟩
def Loc.at_(b:Nat):Loc:=⟨true,some b,.nilFunc,0⟩
def nth{α:Type}:List α→Nat→Option α
 |[],_=>none
 |a::_,0=>some a
 |_::l,n+1=>nth l n
theorem nth_eq{α:Type}:∀ (l:List α) (n:Nat),nth l n=l[n]?
 |[],_=>by simp [nth]
 |_::_,0=>by simp [nth]
 |_::l,n+1=>by simp [nth,nth_eq l n]
def R0(S:Nat→Prop)(w:World)(ids:List Loc):AV→Value→Prop
 |.own i off,v=>∃ b,nth ids i=some (Loc.at_ b)∧v=.pointer (some ⟨b,off,none⟩)
 |.at_ i off,v=>∃ b,nth ids i=some (Loc.at_ b)∧v=.pointer (some ⟨b,off,none⟩)
 |.sl i off sz n c,v=>∃ b,nth ids i=some (Loc.at_ b)∧v=.slice (some ⟨b,off,none⟩) n c
 |.gro i n,v=>∃ L,nth ids i=some L∧L.fix=false∧n≤L.n∧(∃ A m c,v=.slice A m c)∧(L.n=n→v=L.v)
 |.mref i,v=>∃ b,nth ids i=some (Loc.at_ b)∧v=.map (some b)
 |a,v=>P1 S w a v
def all2{α β:Type}(R:α→β→Prop):List α→List β→Prop
 |[],[]=>True
 |a::l,b::r=>R a b∧all2 R l r
 |_,_=>False
def R1(S:Nat→Prop)(w:World)(ids:List Loc):AV→Value→Prop
 |.fn f a b,v=>∃ va vb,v=.func (.func f) ⟨va⟩ ⟨vb⟩∧all2 (R0 S w ids) a va∧all2 (R0 S w ids) b vb
 |a,v=>R0 S w ids a v
def R(S:Nat→Prop)(w:World)(ids:List Loc):AV→Value→Prop
 |.agg l,v=>∃ vs,v=.agg ⟨vs⟩∧all2 (R1 S w ids) l vs
 |a,v=>R1 S w ids a v
theorem all2.imp{α β:Type}{R R':α→β→Prop}(h:∀ a b,R a b→R' a b):∀ {l:List α} {r:List β},all2 R l r→all2 R' l r
 |[],[],_=>trivial
 |a::l,b::r,⟨h1,h2⟩=>⟨h a b h1,all2.imp h h2⟩
 |[],_::_,h'=>h'.elim
 |_::_,[],h'=>h'.elim
theorem all2.len{α β:Type}{R:α→β→Prop}:∀ {l:List α} {r:List β},all2 R l r→r.length=l.length
 |[],[],_=>rfl
 |a::l,b::r,⟨h1,h2⟩=>by simp [all2.len h2]
 |[],_::_,h'=>h'.elim
 |_::_,[],h'=>h'.elim
theorem all2.get{α β:Type}{R:α→β→Prop}:∀ {l:List α} {r:List β} {i:Nat} {a:α},all2 R l r→l[i]?=some a→∃ b,r[i]?=some b∧R a b
 |[],_,i,a,_,h=>by simp at h
 |a::l,b::r,0,x,⟨h1,h2⟩,h=>by simp at h;subst h;exact⟨b,rfl,h1⟩
 |a::l,b::r,i+1,x,⟨h1,h2⟩,h=>by simp at h;obtain⟨y,h3,h4⟩:=all2.get h2 h;exact⟨y,by simpa using h3,h4⟩
 |_::_,[],_,_,h',_=>h'.elim
theorem all2.drop{α β:Type}{R:α→β→Prop}:∀ {l:List α} {r:List β} (i:Nat),all2 R l r→all2 R (l.drop i) (r.drop i)
 |l,r,0,h=>h
 |[],[],i+1,_=>by simp [all2]
 |a::l,b::r,i+1,⟨h1,h2⟩=>all2.drop i h2
 |[],_::_,_+1,h'=>h'.elim
 |_::_,[],_+1,h'=>h'.elim
theorem all2.take{α β:Type}{R:α→β→Prop}:∀ {l:List α} {r:List β} (i:Nat),all2 R l r→all2 R (l.take i) (r.take i)
 |l,r,0,h=>by simp [all2]
 |[],[],i+1,_=>by simp [all2]
 |a::l,b::r,i+1,⟨h1,h2⟩=>⟨h1,all2.take i h2⟩
 |[],_::_,_+1,h'=>h'.elim
 |_::_,[],_+1,h'=>h'.elim
theorem all2.app{α β:Type}{R:α→β→Prop}:∀ {l l':List α} {r r':List β},all2 R l r→all2 R l' r'→all2 R (l++l') (r++r')
 |[],_,[],_,_,h=>h
 |a::l,_,b::r,_,⟨h1,h2⟩,h=>⟨h1,all2.app h2 h⟩
 |[],_,_::_,_,h',_=>h'.elim
 |_::_,_,[],_,h',_=>h'.elim
theorem PL_iff{S:Nat→Prop}{w:World}:∀ {l:List AV} {vs:List Value},PL S w l vs↔all2 (P1 S w) l vs
 |[],vs=>by cases vs<;>simp [PL,all2]
 |a::l,[]=>by simp [PL,all2]
 |a::l,v::vs=>by
  simp only [PL,all2,List.cons.injEq]
  exact⟨fun ⟨v',r,⟨e1,e2⟩,h1,h2⟩=>⟨e1 ▸ h1,PL_iff.1 (e2 ▸ h2)⟩,fun ⟨h1,h2⟩=>⟨v,vs,⟨rfl,rfl⟩,h1,PL_iff.2 h2⟩⟩
theorem PL.len{S:Nat→Prop}{w:World}{l:List AV}{vs:List Value}(h:PL S w l vs):vs.length=l.length:=(PL_iff.1 h).len
theorem R0.kp{S S':Nat→Prop}{w w':World}{ids:List Loc}(hk:Kp S S' w w'){a:AV}{v:Value}(h:R0 S w ids a v):R0 S' w' ids a v:=by
 cases a<;>first|exact P1.kp hk h|exact h
theorem R1.kp{S S':Nat→Prop}{w w':World}{ids:List Loc}(hk:Kp S S' w w'){a:AV}{v:Value}(h:R1 S w ids a v):R1 S' w' ids a v:=by
 cases a with
 |fn f x y=>obtain⟨va,vb,e,h1,h2⟩:=h;exact⟨va,vb,e,h1.imp fun _ _ h=>R0.kp hk h,h2.imp fun _ _ h=>R0.kp hk h⟩
 |_=>simp only [R1] at h ⊢;exact R0.kp hk h
theorem R.kp{S S':Nat→Prop}{w w':World}{ids:List Loc}(hk:Kp S S' w w'){a:AV}{v:Value}(h:R S w ids a v):R S' w' ids a v:=by
 cases a with
 |agg l=>obtain⟨vs,e,h1⟩:=h;exact⟨vs,e,h1.imp fun _ _ h=>R1.kp hk h⟩
 |_=>simp only [R] at h ⊢;exact R1.kp hk h
structure Ids(ids ids':List Loc):Prop where
 fix:∀ i b,nth ids i=some (Loc.at_ b)→nth ids' i=some (Loc.at_ b)
 gro:∀ i L,nth ids i=some L→L.fix=false→∃ L',nth ids' i=some L'∧L'.fix=false∧(L'=L∨L.n<L'.n)
theorem Ids.trans{a b c:List Loc}(h:Ids a b)(h':Ids b c):Ids a c :=
 ⟨fun i x hx=>h'.fix i x (h.fix i x hx),fun i L hL hf=>by
  obtain⟨L',g1,g2,g3⟩:=h.gro i L hL hf
  obtain⟨L'',k1,k2,k3⟩:=h'.gro i L' g1 g2
  refine⟨L'',k1,k2,?_⟩
  rcases g3 with rfl|g3<;>rcases k3 with rfl|k3
  ·exact .inl rfl
  ·exact .inr k3
  ·exact .inr g3
  ·exact .inr (by omega)⟩
theorem Ids.refl(a:List Loc):Ids a a:=⟨fun _ _ h=>h,fun _ L h hf=>⟨L,h,hf,.inl rfl⟩⟩
theorem Ids.nil(a:List Loc):Ids [] a:=⟨fun i b h=>by simp [nth] at h,fun i L h=>by simp [nth] at h⟩
theorem R0.ids{S:Nat→Prop}{w:World}{ids ids':List Loc}(hi:Ids ids ids'){a:AV}{v:Value}(h:R0 S w ids a v):R0 S w ids' a v:=by
 cases a with
 |own i off=>obtain⟨b,h1,h2⟩:=h;exact⟨b,hi.fix i b h1,h2⟩
 |at_ i off=>obtain⟨b,h1,h2⟩:=h;exact⟨b,hi.fix i b h1,h2⟩
 |sl i off sz n c=>obtain⟨b,h1,h2⟩:=h;exact⟨b,hi.fix i b h1,h2⟩
 |gro i n =>
  obtain⟨L,h1,h2,h3,h0,h4⟩:=h
  obtain⟨L',g1,g2,g3⟩:=hi.gro i L h1 h2
  rcases g3 with rfl|g3
  ·exact⟨L',g1,g2,h3,h0,h4⟩
  ·exact⟨L',g1,g2,by omega,h0,fun e=>by omega⟩
 |mref i=>obtain⟨b,h1,h2⟩:=h;exact⟨b,hi.fix i b h1,h2⟩
 |_=>exact h
theorem R1.ids{S:Nat→Prop}{w:World}{ids ids':List Loc}(hi:Ids ids ids'){a:AV}{v:Value}(h:R1 S w ids a v):R1 S w ids' a v:=by
 cases a with
 |fn f x y=>obtain⟨va,vb,e,h1,h2⟩:=h;exact⟨va,vb,e,h1.imp fun _ _ h=>R0.ids hi h,h2.imp fun _ _ h=>R0.ids hi h⟩
 |_=>simp only [R1] at h ⊢;exact R0.ids hi h
theorem R.ids{S:Nat→Prop}{w:World}{ids ids':List Loc}(hi:Ids ids ids'){a:AV}{v:Value}(h:R S w ids a v):R S w ids' a v:=by
 cases a with
 |agg l=>obtain⟨vs,e,h1⟩:=h;exact⟨vs,e,h1.imp fun _ _ h=>R1.ids hi h⟩
 |_=>simp only [R] at h ⊢;exact R1.ids hi h
theorem nth_append_new{α:Type}(l:List α)(x:α):nth (l++[x]) l.length=some x:=by rw [nth_eq];simp
theorem nth_append_old{α:Type}{l:List α}{i:Nat}(x:α)(h:i<l.length):nth (l++[x]) i=nth l i:=by rw [nth_eq,nth_eq,List.getElem?_append_left h]
theorem nth_lt{α:Type}{l:List α}{i:Nat}{x:α}(h:nth l i=some x):i<l.length:=by rw [nth_eq] at h;exact(List.getElem?_eq_some_iff.1 h).1
theorem nth_of_lt{α:Type}{l:List α}{i:Nat}(h:i<l.length):∃ x,nth l i=some x:=⟨l[i],by rw [nth_eq];simp [h]⟩
theorem Ids.push(ids:List Loc)(L:Loc):Ids ids (ids++[L]) :=
 ⟨fun i b h=>by rw [nth_append_old L (nth_lt h)];exact h,fun i L' h hf=>⟨L',by rw [nth_append_old L (nth_lt h)];exact h,hf,.inl rfl⟩⟩
theorem nth_set_self{α:Type}{l:List α}{i:Nat}{x:α}(h:i<l.length):nth (l.set i x) i=some x:=by rw [nth_eq];simp [h]
theorem nth_set_ne{α:Type}{l:List α}{i j:Nat}{x:α}(h:i≠j):nth (l.set i x) j=nth l j:=by rw [nth_eq,nth_eq,List.getElem?_set_ne h]
theorem Ids.set{ids:List Loc}{i:Nat}{L L':Loc}(h:nth ids i=some L)(hf:L.fix=false)(hf':L'.fix=false)(hn:L.n<L'.n):Ids ids (ids.set i L'):=by
 refine⟨fun j b hj=>?_,fun j M hj hM=>?_⟩
 ·have hne:i≠j:=fun e=>by subst e;rw [h] at hj;cases hj;cases hf
  rw [nth_set_ne hne];exact hj
 ·by_cases e:i=j
  ·subst e;rw [h] at hj;cases hj;exact⟨L',nth_set_self (nth_lt h),hf',.inr hn⟩
  ·exact⟨M,by rw [nth_set_ne e];exact hj,hM,.inl rfl⟩
theorem R0_pu{S:Nat→Prop}{w:World}{ids:List Loc}{a:AV}{v:Value}(h:pu1 a=true):R0 S w ids a v↔P1 S w a v:=by
 cases a<;>first|exact Iff.rfl|cases h
theorem pu_pu1{a:AV}(h:pu a=true):pu1 a=true:=by
 cases a<;>first|rfl|(simp [pu] at h)
theorem all2_iff{α β:Type}{R R':α→β→Prop}:∀ {l:List α} {r:List β},(∀ a∈l,∀ b,R a b↔R' a b)→(all2 R l r↔all2 R' l r)
 |[],[],_=>Iff.rfl
 |[],_::_,_=>Iff.rfl
 |_::_,[],_=>Iff.rfl
 |a::l,b::r,h=>and_congr (h a List.mem_cons_self b) (all2_iff fun x hx=>h x (List.mem_cons_of_mem _ hx))
theorem puL_iff:∀ {l:List AV},puL l=true↔∀ a∈l,pu a=true
 |[]=>by simp [puL]
 |a::l=>by simp [puL,puL_iff (l:=l)]
theorem R1_pu{S:Nat→Prop}{w:World}{ids:List Loc}{a:AV}{v:Value}(h:pu a=true):R1 S w ids a v↔P1 S w a v:=by
 cases a with
 |fn f x y =>
  simp only [pu,Bool.and_eq_true,puL_iff] at h
  simp only [R1,P1,PL_iff]
  have e1:∀ {va},all2 (R0 S w ids) x va↔all2 (P1 S w) x va:=all2_iff fun a ha b=>R0_pu (pu_pu1 (h.1 a ha))
  have e2:∀ {va},all2 (R0 S w ids) y va↔all2 (P1 S w) y va:=all2_iff fun a ha b=>R0_pu (pu_pu1 (h.2 a ha))
  simp only [e1,e2]
 |_=>simp only [R1];exact R0_pu (pu_pu1 h)
theorem R_pu{S:Nat→Prop}{w:World}{ids:List Loc}{a:AV}{v:Value}(h:pu a=true):R S w ids a v↔P1 S w a v:=by
 cases a with
 |agg l =>
  simp only [pu,puL_iff] at h
  simp only [R,P1,PL_iff]
  have e1:∀ {va},all2 (R1 S w ids) l va↔all2 (P1 S w) l va:=all2_iff fun a ha b=>R1_pu (h a ha)
  simp only [e1]
 |_=>simp only [R];exact R1_pu h
theorem RL_pu{S:Nat→Prop}{w:World}{ids:List Loc}{l:List AV}{vs:List Value}(h:puL l=true):all2 (R S w ids) l vs↔PL S w l vs:=by
 rw [PL_iff];exact all2_iff fun a ha b=>R_pu (puL_iff.1 h a ha)
theorem P1_pu{S:Nat→Prop}{w:World}:∀ {a:AV} {v:Value},P1 S w a v→pu1 a=true
 |.own _ _,_,h=>h.elim
 |.at_ _ _,_,h=>h.elim
 |.sl _ _ _ _ _,_,h=>h.elim
 |.gro _ _,_,h=>h.elim
 |.mref _,_,h=>h.elim
 |.int _ _,_,_=>rfl
 |.bool _,_,_=>rfl
 |.raw _,_,_=>rfl
 |.emp,_,_=>rfl
 |.agg _,_,_=>rfl
 |.tup _,_,_=>rfl
 |.lst _ _ _,_,_=>rfl
 |.ptr _,_,_=>rfl
 |.fn _ _ _,_,_=>rfl
theorem P1_R0{S:Nat→Prop}{w:World}{ids:List Loc}{a:AV}{v:Value}(h:P1 S w a v):R0 S w ids a v:=(R0_pu (P1_pu h)).2 h
theorem P1_R1{S:Nat→Prop}{w:World}{ids:List Loc}{a:AV}{v:Value}(h:P1 S w a v):R1 S w ids a v:=by
 cases a with
 |fn f x y=>obtain⟨va,vb,e,h1,h2⟩:=h;exact⟨va,vb,e,(PL_iff.1 h1).imp fun _ _ h=>P1_R0 h,(PL_iff.1 h2).imp fun _ _ h=>P1_R0 h⟩
 |_=>simp only [R1];exact P1_R0 h
theorem P1_R{S:Nat→Prop}{w:World}{ids:List Loc}{a:AV}{v:Value}(h:P1 S w a v):R S w ids a v:=by
 cases a with
 |agg l=>obtain⟨vs,e,h1⟩:=h;exact⟨vs,e,(PL_iff.1 h1).imp fun _ _ h=>P1_R1 h⟩
 |_=>simp only [R];exact P1_R1 h
inductive TK where
 |sc
 |ag (n:Nat)
def szOf:TK→Nat
 |.sc=>1
 |.ag n=>n
inductive OB where
 |blk (cs:List AV)
 |buf (e sz:Nat) (l:List (List AV))
 |obj (P:Nat→Obj→Prop)
 |dead
abbrev Tm:=List (Nat×AV)
abbrev Ow:=List OB
structure Tab where
 tk:List (Nat×TK)
 fo:List (Nat×List (Nat×Nat))
 ar:List (Nat×Nat×Nat)
 sl:List (Nat×Nat)
 ik:List (Nat×IntKind)
 zr:List (Nat×List Value)
 f0:Nat
 f1:Nat
def look{α:Type}:List (Nat×α)→Nat→Option α
 |[],_=>none
 |(k,v)::l,t=>bif Nat.beq k t then some v else look l t
def nagA:AV→Bool
 |.agg _=>false
 |.tup _=>false
 |.raw v=>v.oneCell'
 |_=>true
structure Br(c:Bool)(A B:Prop):Prop where
 t:c=true→A
 f:c=false→B
structure Ob(p K:Prop):Prop where
 p:p
 k:K
structure Ix(i:Int)(K:Nat→Prop):Prop where
 out:∃ k:Nat,i=k∧K k
structure Pc(i off:Nat)(K:AV→Prop):Prop where
 out:K (.own i off)∨K (.at_ i off)
structure LdAt(i off:Nat)(k:TK)(own:Ow)(K:AV→Prop):Prop where
 out:∃ cs,nth own i=some (.blk cs)∧match k with
  |.sc=>∃ v,nth cs off=some v∧nagA v=true∧K v
  |.ag n=>off+n≤cs.length∧K (.agg ((cs.drop off).take n))
structure StAt(i off:Nat)(vs:List AV)(own:Ow)(K:Ow→Prop):Prop where
 out:∃ cs,nth own i=some (.blk cs)∧off+vs.length≤cs.length∧K (own.set i (.blk (cs.take off++(vs++(cs.drop off).drop vs.length))))
def fc:AV→(AV→Prop)→Prop
 |.int k n,K=>K (.int k n)
 |.bool b,K=>K (.bool b)
 |.raw v,K=>K (.raw v)
 |.emp,K=>K .emp
 |.agg l,K=>K (.agg l)
 |.tup l,K=>K (.tup l)
 |.lst sz n f,K=>K (.lst sz n f)
 |.ptr l,K=>K (.ptr l)
 |.fn f a b,K=>K (.fn f a b)
 |.own i o,K=>K (.own i o)
 |.at_ i o,K=>K (.at_ i o)
 |.sl i o z n c,K=>K (.sl i o z n c)
 |.gro i n,K=>K (.gro i n)
 |.mref i,K=>K (.mref i)
theorem fc_iff(v:AV)(K:AV→Prop):fc v K↔K v:=by
 cases v<;>rfl
def av1:Value→AV
 |.int k n=>.int k n
 |.bool b=>.bool b
 |.slice none 0 0=>.emp
 |v=>.raw v
def av:Value→AV
 |.agg ⟨l⟩=>.agg (l.map av1)
 |v=>av1 v
def ev(tm:Tm)(x:Operand)(K:AV→Prop):Prop :=
 match x with
 |.tmp t=>match look tm t with
  |some v=>K v
  |none=>False
 |.const v=>fc (av v) K
 |.global _=>False
 |.func f=>K (.fn f [] [])
def evs(tm:Tm):List Operand→(List AV→Prop)→Prop
 |[],K=>K []
 |x::l,K=>ev tm x fun v=>evs tm l fun vs=>K (v::vs)
def takeK:Nat→List AV→(List AV→Prop)→Prop
 |0,_,K=>K []
 |_+1,[],_=>False
 |n+1,v::l,K=>fc v fun v=>takeK n l fun l'=>K (v::l')
def dropK:Nat→List AV→(List AV→Prop)→Prop
 |0,l,K=>K l
 |_+1,[],_=>False
 |n+1,_::l,K=>dropK n l K
def overK:List AV→List AV→(List AV→Prop)→Prop
 |[],l,K=>K l
 |_::_,[],_=>False
 |v::vs,_::l,K=>fc v fun v=>overK vs l fun l'=>K (v::l')
def setK:Nat→List AV→List AV→(List AV→Prop)→Prop
 |0,l,vs,K=>overK vs l K
 |_+1,[],_,_=>False
 |n+1,x::l,vs,K=>setK n l vs fun l'=>K (x::l')
def oneK:List AV→(AV→Prop)→Prop
 |[],_=>False
 |v::_,K=>fc v fun v=>bif nagA v then K v else False
def ownK:Nat→Ow→(List AV→Prop)→Prop
 |_,[],_=>False
 |0,o::_,K=>match o with
  |.blk cs=>K cs
  |_=>False
 |n+1,_::l,K=>ownK n l K
def upK:Nat→Ow→List AV→(Ow→Prop)→Prop
 |_,[],_,_=>False
 |0,_::l,cs,K=>K (.blk cs::l)
 |n+1,c::l,cs,K=>upK n l cs fun l'=>K (c::l')
def pushK:Ow→OB→(Nat→Ow→Prop)→Prop
 |[],o,K=>K 0 [o]
 |x::l,o,K=>pushK l o fun n l'=>K (n+1) (x::l')
def lit(n:Nat)(K:Nat→Prop):Prop :=
 match n with
 |0=>K 0|1=>K 1|2=>K 2|3=>K 3|4=>K 4|5=>K 5|6=>K 6|7=>K 7|8=>K 8|9=>K 9
 |10=>K 10|11=>K 11|12=>K 12|13=>K 13|14=>K 14|15=>K 15|16=>K 16|17=>K 17|18=>K 18|19=>K 19
 |n=>K n
theorem lit_iff(n:Nat)(K:Nat→Prop):lit n K↔K n:=by
 unfold lit;split<;>rfl
def put(N:Nat)(tm:Tm)(dst:Option Nat)(v:AV)(K:Tm→Prop):Prop :=
 match dst with
 |none=>K tm
 |some d=>bif Nat.ble (d+1) N then fc v fun v=>K ((d,v)::tm) else False
theorem takeK_iff:∀ (n:Nat) (l:List AV) (K:List AV→Prop),takeK n l K↔n≤l.length∧K (l.take n)
 |0,l,K=>by simp [takeK]
 |n+1,[],K=>by simp [takeK]
 |n+1,v::l,K=>by simp [takeK,fc_iff,takeK_iff n l]
theorem dropK_iff:∀ (n:Nat) (l:List AV) (K:List AV→Prop),dropK n l K↔n≤l.length∧K (l.drop n)
 |0,l,K=>by simp [dropK]
 |n+1,[],K=>by simp [dropK]
 |n+1,v::l,K=>by simp [dropK,dropK_iff n l]
theorem overK_iff:∀ (vs l:List AV) (K:List AV→Prop),overK vs l K↔vs.length≤l.length∧K (vs++l.drop vs.length)
 |[],l,K=>by simp [overK]
 |v::vs,[],K=>by simp [overK]
 |v::vs,x::l,K=>by simp [overK,fc_iff,overK_iff vs l]
theorem setK_iff:∀ (n:Nat) (l vs:List AV) (K:List AV→Prop),setK n l vs K↔n+vs.length≤l.length∧K (l.take n++(vs++(l.drop n).drop vs.length))
 |0,l,vs,K=>by simp [setK,overK_iff]
 |n+1,[],vs,K=>by simp [setK]
 |n+1,x::l,vs,K=>by
  simp only [setK,setK_iff n l vs,List.length_cons,List.take_succ_cons,List.drop_succ_cons,List.cons_append]
  exact and_congr_left fun _=>by omega
theorem oneK_iff(l:List AV)(K:AV→Prop):oneK l K↔∃ v r,l=v::r∧nagA v=true∧K v:=by
 cases l with
 |nil=>simp [oneK]
 |cons v l=>cases h:nagA v<;>simp [oneK,fc_iff,h]
theorem ownK_iff:∀ (n:Nat) (l:Ow) (K:List AV→Prop),ownK n l K↔∃ cs,nth l n=some (.blk cs)∧K cs
 |_,[],K=>by simp [ownK,nth]
 |0,c::l,K=>by cases c<;>simp [ownK,nth]
 |n+1,c::l,K=>by simp [ownK,nth,ownK_iff n l]
theorem upK_iff:∀ (n:Nat) (l:Ow) (cs:List AV) (K:Ow→Prop),upK n l cs K↔n<l.length∧K (l.set n (.blk cs))
 |_,[],cs,K=>by simp [upK]
 |0,c::l,cs,K=>by simp [upK]
 |n+1,c::l,cs,K=>by simp [upK,upK_iff n l]
theorem pushK_iff:∀ (l:Ow) (o:OB) (K:Nat→Ow→Prop),pushK l o K↔K l.length (l++[o])
 |[],o,K=>by simp [pushK]
 |c::l,o,K=>by simp [pushK,pushK_iff l]
def cellsK(k:TK)(v:AV)(K:List AV→Prop):Prop :=
 match k with
 |.sc=>bif nagA v then K [v] else False
 |.ag n=>match v with
  |.agg l=>bif Nat.beq l.length n then K l else False
  |_=>False
def partsK(tm:Tm)(pl:Nat→Option (Nat×TK)):List (Nat×Operand)→List AV→(List AV→Prop)→Prop
 |[],z,K=>K z
 |(i,x)::l,z,K=>match pl i with
  |none=>False
  |some (off,k)=>ev tm x fun v=>cellsK k v fun cs=>setK off z cs fun z=>partsK tm pl l z K
def placeOf(T:Tab)(t:Nat)(i:Nat):Option (Nat×TK) :=
 match look T.fo t with
 |some l=>(nth l i).bind fun d=>(look T.tk d.2).map fun k=>(d.1,k)
 |none=>match look T.ar t with
  |some (n,e)=>match look T.tk e with
   |some .sc=>some (i,.sc)
   |some (.ag s)=>some (i*s,.ag s)
   |none=>none
  |none=>none
def bldB(T:Tab)(t:Nat):Bool :=
 match look T.fo t with
 |some _=>true
 |none=>match look T.ar t with
  |some (_,e)=>match look T.tk e with
   |some _=>true
   |none=>false
  |none=>false
def zAv(z:List Value):List AV:=z.map av1
def zsOf(n:Nat)(z:List Value):List AV:=(List.range n).map fun i=>av1 (z.getD (i%z.length) undef)
def ldK(k:TK)(cs:List AV)(K:AV→Prop):Prop :=
 match k with
 |.sc=>oneK cs K
 |.ag n=>takeK n cs fun l=>K (.agg l)
structure En where
 w:World
 gs:List Loc
 S:Nat→Prop
def En.inG(E:En)(b:Nat):Prop:=∃ i L,nth E.gs i=some L∧L.blk=some b
structure En.Fr(E:En)(n:World):Prop where
 os:n.os=E.w.os
 tape:n.tape=E.w.tape
 output:n.output=E.w.output
 size:E.w.heap.size≤n.heap.size
 block:∀ b,b<E.w.heap.size→¬ E.inG b→n.heap[b]?=E.w.heap[b]?
def Live(S:Nat→Prop)(n:World)(ids:List Loc):OB→Loc→Prop
 |.blk cs,L=>∃ b vs,L=Loc.at_ b∧all2 (R1 S n ids) cs vs∧Bx n b vs
 |.buf e sz l,L=>∃ A c vs,L=⟨false,(Value.slice A l.length c).ownBlock,.slice A l.length c,l.length⟩∧(∀ x∈l,x.length=sz)∧OwnE n 0 e sz A l.length c vs∧PL S n l.flatten vs
 |.obj P,L=>∃ b o,L=Loc.at_ b∧n.heap[b]?=some o∧P b o
 |.dead,_=>True
def alive:OB→Bool
 |.dead=>false
 |_=>true
def Sl(S:Nat→Prop)(n:World)(ids:List Loc)(tm:Tm)(a:Act):Prop:=∀ t v,look tm t=some v→∃ V,a.tmps[t]?=some V∧R S n ids v V
structure Sim(N:Nat)(E:En)(tm:Tm)(own:Ow)(S:Nat→Prop)(ids:List Loc)(a:Act)(n:World):Prop where
 size:a.tmps.size=N
 defers:a.defers=[]
 sl:Sl S n ids tm a
 len:ids.length=own.length
 live:∀ i o L,nth own i=some o→nth ids i=some L→Live S n ids o L
 dist:∀ i j o o' L L' b,nth own i=some o→nth own j=some o'→alive o=true→alive o'=true→nth ids i=some L→nth ids j=some L'→L.blk=some b→L'.blk=some b→i=j
 noS:∀ i o L b,nth own i=some o→alive o=true→nth ids i=some L→L.blk=some b→¬ S b∧b<n.heap.size∧(E.w.heap.size≤b∨∃ L0,nth E.gs i=some L0∧L0.blk=some b)
 pre:Ids E.gs ids
 slt:∀ b,S b→b<n.heap.size
 sold:∀ b,S b→b<E.w.heap.size→E.S b
 snew:∀ b,E.S b→S b
 fr:E.Fr n
abbrev After(N:Nat)(E:En)(K:Tm→Ow→Prop):Act→World→Prop:=fun a n=>∃ tm own S ids,K tm own∧Sim N E tm own S ids a n
structure QAt(P:Program)(o:Oper)(tm:Tm)(own:Ow)(K:AV→Prop):Prop where
 out:∃ v,K v∧∀ N E S ids a n,Sim N E tm own S ids a n→∃ V,R S n ids v V∧∀ w,Past n w→(execOp a.eval o).run P w=.ok (.value V) w
structure CallX(P:Program)(f:Nat)(vs:List AV)(tm:Tm)(own:Ow)(K:AV→Prop):Prop where
 out:∃ r,flat r=true∧K r∧∀ N E S ids a n,Sim N E tm own S ids a n→∀ Vs,all2 (R S n ids) vs Vs→Calls P f ⟨Vs⟩ n fun e n'=>e=.returned (val r)∧Below n.heap.size n n'
structure CallN(P:Program)(N:Nat)(E:En)(f:Nat)(vs:List AV)(dst:Option Nat)(K:Tm→Ow→Prop)(tm:Tm)(own:Ow):Prop where
 out:∀ S ids a n,Sim N E tm own S ids a n→∀ Vs,all2 (R S n ids) vs Vs→Calls P f ⟨Vs⟩ n fun e n'=>∃ V,e=.returned V∧After N E K (a.put dst V) n'
structure OpAt(P:Program)(N:Nat)(E:En)(o:Oper)(K:Tm→Ow→Prop)(tm:Tm)(own:Ow):Prop where
 out:∀ S ids a n,Sim N E tm own S ids a n→∀ Q,o.wp P a n (After N E K) Q
def capB:AV→Bool
 |.own _ _=>true
 |.at_ _ _=>true
 |.sl _ _ _ _ _=>true
 |.gro _ _=>true
 |.mref _=>true
 |v=>pu v
def capL:List AV→Bool
 |[]=>true
 |v::l=>capB v&&capL l
def intBin(op:BinOp)(k:IntKind)(a b:Int)(K:AV→Prop)(E:Prop):Prop :=
 match op with
 |.add=>match k with
  |.i64=>Ob (W.I64 (a+b)) (K (.int .i64 (a+b)))
  |k=>K (.int k (k.wrap (a+b)))
 |.sub=>match k with
  |.i64=>Ob (W.I64 (a-b)) (K (.int .i64 (a-b)))
  |k=>K (.int k (k.wrap (a-b)))
 |.mul=>match k with
  |.i64=>Ob (W.I64 (a*b)) (K (.int .i64 (a*b)))
  |k=>K (.int k (k.wrap (a*b)))
 |.quo=>match k with
  |.i64=>Ob (0<b∧0≤a∧W.I64 a) (K (.int .i64 (a/b)))
  |k=>E
 |.rem=>match k with
  |.i64=>Ob (0<b∧0≤a) (K (.int .i64 (a%b)))
  |k=>E
 |.eql=>K (.bool (decide (a=b)))
 |.neq=>K (.bool (!decide (a=b)))
 |.lss=>K (.bool (decide (a<b)))
 |.leq=>K (.bool (decide (a≤b)))
 |.gtr=>K (.bool (decide (b<a)))
 |.geq=>K (.bool (decide (b≤a)))
 |_=>E
def loK(tm:Tm):Option Operand→(Option Nat→Prop)→Prop
 |none,K=>K none
 |some x,K=>ev tm x fun
  |.int _ i=>Ix i fun k=>K (some k)
  |_=>False
def shf(f:Nat→List AV):Option Nat→Nat→List AV
 |none=>f
 |some l=>fun j=>f (l+j)
def stepQ(T:Tab)(P:Program)(tm:Tm)(own:Ow)(o:Oper)(K:AV→Prop):Prop :=
 match o.op with
 |.move x=>ev tm x K
 |.assign x=>ev tm x K
 |.pick c a b=>ev tm c fun
  |.bool c=>Br c (ev tm a K) (ev tm b K)
  |_=>False
 |.load t x=>match look T.tk t with
  |some k=>ev tm x fun
   |.own i off=>ownK i own fun cs=>dropK off cs fun cs=>ldK k cs K
   |.at_ i off=>LdAt i off k own K
   |.ptr l=>ldK k l K
   |_=>False
  |none=>False
 |.fieldAddr s x f=>match (look T.fo s).bind (nth · f) with
  |some d=>ev tm x fun
   |.own i off=>lit (off+d.1) fun off=>K (.own i off)
   |.at_ i off=>K (.at_ i (off+d.1))
   |.ptr l=>dropK d.1 l fun l=>K (.ptr l)
   |_=>False
  |none=>False
 |.indexAddr t x ix=>ev tm x fun
  |.lst sz n f=>match (look T.sl t).bind (look T.tk) with
   |some k=>ev tm ix fun
    |.int _ i=>Ix i fun j=>Ob (j<n) (bif Nat.beq sz (szOf k) then K (.ptr (f j)) else False)
    |_=>False
   |none=>False
  |.sl i off sz n c=>match (look T.sl t).bind (look T.tk) with
   |some k=>ev tm ix fun
    |.int _ j=>Ix j fun j=>Ob (j<n) (bif Nat.beq sz (szOf k) then Pc i (off+j*sz) K else False)
    |_=>False
   |none=>False
  |.own i off=>match look T.ar t with
   |some (n,e)=>match look T.tk e with
    |some ek=>ev tm ix fun
     |.int _ j=>Ix j fun j=>Ob (j<n) (Pc i (off+j*szOf ek) K)
     |_=>False
    |none=>False
   |none=>False
  |.at_ i off=>match look T.ar t with
   |some (n,e)=>match look T.tk e with
    |some ek=>ev tm ix fun
     |.int _ j=>Ix j fun j=>Ob (j<n) (K (.at_ i (off+j*szOf ek)))
     |_=>False
    |none=>False
   |none=>False
  |.ptr l=>match look T.ar t with
   |some (n,e)=>match look T.tk e with
    |some ek=>ev tm ix fun
     |.int _ j=>Ix j fun j=>Ob (j<n) (K (.ptr (l.drop (j*szOf ek))))
     |_=>False
    |none=>False
   |none=>False
  |_=>False
 |.nilCheck x=>ev tm x fun
  |.own i off=>K (.own i off)
  |.at_ i off=>K (.at_ i off)
  |.ptr l=>K (.ptr l)
  |_=>False
 |.binOp op _ x y _=>ev tm x fun
  |.int k a=>ev tm y fun
   |.int k' b=>bif decide (k=k') then intBin op k a b K (QAt P o tm own K) else QAt P o tm own K
   |_=>QAt P o tm own K
  |_=>QAt P o tm own K
 |.unOp op _ x=>ev tm x fun
  |.bool b=>match op with
   |.not=>K (.bool (!b))
   |_=>False
  |.int .i64 a=>match op with
   |.neg=>Ob (W.I64 (-a)) (K (.int .i64 (-a)))
   |_=>QAt P o tm own K
  |_=>QAt P o tm own K
 |.convert s d x=>ev tm x fun
  |.int _ n=>match look T.ik s with
   |some _=>match look T.ik d with
    |some .i64=>Ob (W.I64 n) (K (.int .i64 n))
    |some k=>K (.int k (k.wrap n))
    |none=>QAt P o tm own K
   |none=>QAt P o tm own K
  |_=>QAt P o tm own K
 |.extract x i=>ev tm x fun
  |.tup l=>match nth l i with
   |some v=>fc v K
   |none=>False
  |_=>False
 |.field s x f=>match (look T.fo s).bind (nth · f) with
  |some d=>match look T.tk d.2 with
   |some k=>ev tm x fun
    |.agg l=>dropK d.1 l fun l=>ldK k l K
    |_=>False
   |none=>False
  |none=>False
 |.index t x ix=>match look T.ar t with
  |some (n,e)=>match look T.tk e with
   |some ek=>ev tm x fun
    |.agg l=>ev tm ix fun
     |.int _ j=>Ix j fun j=>Ob (j<n) (lit (j*szOf ek) fun off=>dropK off l fun l=>ldK ek l K)
     |_=>False
    |_=>QAt P o tm own K
   |none=>QAt P o tm own K
  |none=>QAt P o tm own K
 |.build t ⟨parts⟩=>match look T.zr t with
  |some z=>bif bldB T t then partsK tm (placeOf T t) parts (zAv z) fun z=>K (.agg z) else False
  |none=>False
 |.slice t x lo hi none=>ev tm x fun
  |.lst sz n f=>match (look T.sl t).bind (look T.tk) with
   |some k=>loK tm lo fun l=>loK tm hi fun h=>Ob (l.getD 0≤h.getD n∧h.getD n≤n) (bif Nat.beq sz (szOf k) then K (.lst sz (h.getD n-l.getD 0) (shf f l)) else False)
   |none=>False
  |.own i off=>match look T.ar t with
   |some (n,e)=>match look T.tk e with
    |some ek=>loK tm lo fun l=>loK tm hi fun h=>Ob (l.getD 0≤h.getD n∧h.getD n≤n∧l.getD 0<n) (lit (off+l.getD 0*szOf ek) fun off=>K (.sl i off (szOf ek) (h.getD n-l.getD 0) (n-l.getD 0)))
    |none=>False
   |none=>False
  |_=>QAt P o tm own K
 |.makeFunc (.func f) ⟨a⟩ ⟨b⟩=>evs tm a fun va=>evs tm b fun vb=>bif capL va&&capL vb then K (.fn f va vb) else False
 |.call ⟨.value x,⟨args⟩,_⟩=>ev tm x fun
  |.fn f fi ca=>evs tm args fun vs=>bif Nat.ble T.f0 f&&Nat.ble f T.f1 then CallX P f (fi++vs++ca) tm own K else False
  |_=>False
 |.call ⟨.builtin b,⟨args⟩,⟨ts⟩⟩=>match b with
  |.len=>evs tm args fun
   |[.lst _ n _]=>match ts with
    |t::_=>match look T.sl t with
     |some _=>K (.int .i64 n)
     |none=>False
    |[]=>False
   |[.emp]=>match ts with
    |t::_=>match look T.sl t with
     |some _=>K (.int .i64 0)
     |none=>False
    |[]=>False
   |[.sl _ _ _ n _]=>match ts with
    |t::_=>match look T.sl t with
     |some _=>K (.int .i64 n)
     |none=>False
    |[]=>False
   |[.gro i n]=>match ts with
    |t::_=>match look T.sl t with
     |some _=>Ob (∃ e sz l,nth own i=some (.buf e sz l)∧l.length=n) (K (.int .i64 n))
     |none=>False
    |[]=>False
   |_=>QAt P o tm own K
  |.min=>evs tm args fun
   |[.int k a,.int _ b]=>K (.int k (min a b))
   |_=>QAt P o tm own K
  |.max=>evs tm args fun
   |[.int k a,.int _ b]=>K (.int k (max a b))
   |_=>QAt P o tm own K
  |_=>QAt P o tm own K
 |_=>QAt P o tm own K
def bsK(T:Tab)(N:Nat)(t len:Nat)(parts:List (Nat×Operand))(dst:Option Nat)(K:Tm→Ow→Prop)(tm:Tm)(own:Ow):Prop :=
 match look T.sl t with
 |some e=>match look T.tk e with
  |some k=>match look T.zr e with
   |some z=>bif Nat.beq z.length (szOf k)&&Nat.ble 1 (len*szOf k)&&Nat.ble (len*szOf k) 16777216 then partsK tm (fun i=>some (i*szOf k,k)) parts (zsOf (len*szOf k) z) fun cs=>pushK own (.blk cs) fun i own=>lit i fun i=>put N tm dst (.sl i 0 (szOf k) len len) fun tm=>K tm own else False
   |none=>False
  |none=>False
 |none=>False
inductive BsN(T:Tab)(P:Program)(N:Nat)(E:En)(o:Oper)(t len:Nat)(parts:List (Nat×Operand))(K:Tm→Ow→Prop)(tm:Tm)(own:Ow):Prop where
 |mark (h:bsK T N t len parts o.dst K tm own)
 |sem (h:OpAt P N E o K tm own)
inductive CallS(P:Program)(N:Nat)(E:En)(o:Oper)(f:Nat)(vs:List AV)(K:Tm→Ow→Prop)(tm:Tm)(own:Ow):Prop where
 |call (h:CallN P N E f vs o.dst K tm own)
 |sem (h:OpAt P N E o K tm own)
def step(T:Tab)(P:Program)(N:Nat)(E:En)(o:Oper)(K:Tm→Ow→Prop)(tm:Tm)(own:Ow):Prop :=
 match o.op with
 |.box t x=>ev tm x fun
  |.agg l=>pushK own (.blk l) fun i own=>lit i fun i=>put N tm o.dst (.own i 0) fun tm=>K tm own
  |v=>bif nagA v then pushK own (.blk [v]) fun i own=>lit i fun i=>put N tm o.dst (.own i 0) fun tm=>K tm own else False
 |.alloc t=>match look T.zr t with
  |some z=>pushK own (.blk (zAv z)) fun i own=>lit i fun i=>put N tm o.dst (.own i 0) fun tm=>K tm own
  |none=>False
 |.store t x y=>match look T.tk t with
  |some k=>ev tm x fun
   |.own i off=>ev tm y fun v=>cellsK k v fun cs=>bif cs.all nagA then ownK i own fun l=>setK off l cs fun l=>upK i own l fun own=>put N tm o.dst (.raw undef) fun tm=>K tm own else False
   |.at_ i off=>ev tm y fun v=>cellsK k v fun cs=>bif cs.all nagA then StAt i off cs own fun own=>put N tm o.dst (.raw undef) fun tm=>K tm own else False
   |_=>OpAt P N E o K tm own
  |none=>OpAt P N E o K tm own
 |.call ⟨.value x,⟨args⟩,_⟩=>ev tm x fun
  |.fn f fi ca=>evs tm args fun vs=>bif Nat.ble T.f0 f&&Nat.ble f T.f1 then CallS P N E o f (fi++vs++ca) K tm own else OpAt P N E o K tm own
  |_=>OpAt P N E o K tm own
 |.buildSlice t len ⟨parts⟩=>BsN T P N E o t len parts K tm own
 |.makeSlice _ _ _=>OpAt P N E o K tm own
 |.mapUpdate _ _ _ _=>OpAt P N E o K tm own
 |.makeMap _ _=>OpAt P N E o K tm own
 |.range _ _=>OpAt P N E o K tm own
 |.next _ _=>OpAt P N E o K tm own
 |.entry _=>OpAt P N E o K tm own
 |.call ⟨.builtin .append,_,_⟩=>OpAt P N E o K tm own
 |.call ⟨.builtin .copy,_,_⟩=>OpAt P N E o K tm own
 |.call ⟨.builtin .clear,_,_⟩=>OpAt P N E o K tm own
 |_=>stepQ T P tm own o fun v=>put N tm o.dst v fun tm=>K tm own
def gd(all:List Oper)(tm:Tm)(o:Oper)(Y N:Prop):Prop :=
 match o.guard with
 |none=>Y
 |some (j,t)=>match nth all j with
  |some oj=>match oj.dst with
   |some d=>match look tm d with
    |some v=>match v with
     |.bool b=>match t with
      |true=>Br b Y N
      |false=>Br b N Y
     |.raw u=>match u with
      |.bool _=>False
      |_=>N
     |_=>False
    |none=>False
   |none=>False
  |none=>False
def WQ(T:Tab)(P:Program)(N:Nat)(all:List Oper)(own:Ow):List Oper→(Tm→Prop)→Tm→Prop
 |[],K,tm=>K tm
 |o::l,K,tm=>gd all tm o (stepQ T P tm own o fun v=>put N tm o.dst v fun tm=>WQ T P N all own l K tm) (put N tm o.dst (.raw undef) fun tm=>WQ T P N all own l K tm)
def WO(T:Tab)(P:Program)(N:Nat)(E:En)(all:List Oper):List Oper→(Tm→Ow→Prop)→Tm→Ow→Prop
 |[],K,tm,own=>K tm own
 |o::l,K,tm,own=>gd all tm o (step T P N E o (WO T P N E all l K) tm own) (put N tm o.dst (.raw undef) fun tm=>WO T P N E all l K tm own)
def memOp(o:Oper):Bool :=
 match o.op with
 |.box _ _=>true
 |.alloc _=>true
 |.store _ _ _=>true
 |.buildSlice _ _ _=>true
 |.makeSlice _ _ _=>true
 |.mapUpdate _ _ _ _=>true
 |.makeMap _ _=>true
 |.call ⟨.builtin .append,_,_⟩=>true
 |.call ⟨.builtin .copy,_,_⟩=>true
 |.call ⟨.builtin .clear,_,_⟩=>true
 |_=>false
def headGo:List Oper→Nat→Nat→Nat
 |[],k,_=>k
 |o::l,k,h=>bif memOp o then h else bif pureOp o then headGo l (k+1) h else headGo l (k+1) (k+1)
def headN(l:List Oper):Nat:=headGo l 0 0
def splitK:Nat→List Oper→(List Oper→List Oper→Prop)→Prop
 |0,l,K=>K [] l
 |_+1,[],K=>K [] []
 |n+1,o::l,K=>splitK n l fun a b=>K (o::a) b
structure CodeAt(P:Program)(N:Nat)(E:En)(c:Code)(K:Exit→Tm→Ow→Prop)(tm:Tm)(own:Ow):Prop where
 out:∀ S ids a n,Sim N E tm own S ids a n→∀ Q,(∀ e a n,After N E (K e) a n→Q e a n)→(∀ c a d v w,Q (.panic c) (a.put (some d) v) w→Q (.panic c) a w)→c.wp P Q a n
structure LoopAt(P:Program)(N:Nat)(E:En)(c:Code)(K:Exit→Tm→Ow→Prop)(tm:Tm)(own:Ow):Prop where
 out:CodeAt P N E (.loop c) K tm own
inductive Drw(T:Tab)(P:Program)(N:Nat)(E:En)(c:Code)(l:List Oper)(K:Exit→Tm→Ow→Prop)(tm:Tm)(own:Ow):Prop where
 |loose (h:looseB l.toArray (headN l)=true) (k:splitK (headN l) l fun a b=>WQ T P N l own a (fun tm=>WO T P N E l b (K .normal) tm own) tm)
 |sem (h:CodeAt P N E c K tm own)
def WC(T:Tab)(P:Program)(N:Nat)(E:En):Code→(Exit→Tm→Ow→Prop)→Tm→Ow→Prop
 |.skip,K,tm,own=>K .normal tm own
 |.region id ⟨l⟩ d,K,tm,own=>match d with
  |false=>WO T P N E l l (K .normal) tm own
  |true=>Drw T P N E (.region id ⟨l⟩ true) l K tm own
 |.seq a b,K,tm,own=>WC T P N E a (fun e tm own=>match e with
  |.normal=>WC T P N E b K tm own
  |e=>K e tm own) tm own
 |.cond c x y,K,tm,own=>ev tm c fun
  |.bool b=>Br b (WC T P N E x K tm own) (WC T P N E y K tm own)
  |_=>False
 |.block id c,K,tm,own=>WC T P N E c (fun e tm own=>match e with
  |.exit id'=>bif Nat.beq id' id then K .normal tm own else K (.exit id') tm own
  |e=>K e tm own) tm own
 |.loop c,K,tm,own=>LoopAt P N E c K tm own
 |.exit id,K,tm,own=>K (.exit id) tm own
 |.ret,K,tm,own=>K .ret tm own
 |c,K,tm,own=>CodeAt P N E c K tm own
structure TabOk(P:Program)(T:Tab):Prop where
 mixed:P.follows .mixedOrders=true
 sc:∀ t,look T.tk t=some .sc→∃ d i,P.underlying t=some d∧d.isRow=false∧P.info? t=some i∧i.size=1
 ag:∀ t n,look T.tk t=some (.ag n)→∃ d i,P.underlying t=some d∧d.isRow=true∧P.info? t=some i∧i.size=n
 fo:∀ s l,look T.fo s=some l→∃ fs,P.underlying s=some (.struct fs)∧fs.toList.map (fun f=>(f.offset,f.type))=l
 foz:∀ s l,look T.fo s=some l→∀ d∈l,∃ i,P.info? d.2=some i∧i.size≠0
 ar:∀ t n e,look T.ar t=some (n,e)→P.underlying t=some (.array n e)
 sl:∀ t e,look T.sl t=some e→P.underlying t=some (.slice e)
 ik:∀ t k,look T.ik t=some k→P.underlying t=some (.int k)
 fn : ∀ f, T.f0 ≤ f → f ≤ T.f1 → ∃ fn, P.funcs[f]? = some fn ∧ fn.body.isNone = false ∧ (fn.name == "runtime.NumGoroutine") = false
 zr:∀ t z,look T.zr t=some z→∃ i v,P.info? t=some i∧i.zero=some v∧v.cells.toList=z
def vB:Value→Value→Bool
 |.int k a,.int k' b=>decide (k=k')&&decide (a=b)
 |.bool a,.bool b=>decide (a=b)
 |.slice none 0 0,.slice none 0 0=>true
 |.pointer none,.pointer none=>true
 |.nilFunc,.nilFunc=>true
 |.map none,.map none=>true
 |_,_=>false
theorem vB_eq{a b:Value}(h:vB a b=true):a=b:=by
 unfold vB at h
 split at h<;>simp_all
def lB:List Value→List Value→Bool
 |[],[]=>true
 |a::l,b::r=>vB a b&&lB l r
 |_,_=>false
theorem lB_eq:∀ {a b:List Value},lB a b=true→a=b
 |[],[],_=>rfl
 |a::l,b::r,h=>by
  simp only [lB,Bool.and_eq_true] at h
  rw [vB_eq h.1,lB_eq h.2]
 |[],_::_,h=>by simp [lB] at h
 |_::_,[],h=>by simp [lB] at h
def tkB(P:Program)(x:Nat×TK):Bool :=
 match P.underlying x.1,P.info? x.1 with
 |some d,some i=>match x.2 with
  |.sc=>!d.isRow&&i.size==1
  |.ag n=>d.isRow&&i.size==n
 |_,_=>false
def foB(P:Program)(x:Nat×List (Nat×Nat)):Bool :=
 (match P.underlying x.1 with
 |some (.struct fs)=>decide (fs.toList.map (fun f=>(f.offset,f.type))=x.2)
 |_=>false)&&x.2.all fun d=>match P.info? d.2 with
  |some i=>i.size != 0
  |none=>false
def arB(P:Program)(x:Nat×Nat×Nat):Bool :=
 match P.underlying x.1 with
 |some (.array n e)=>decide ((n,e)=x.2)
 |_=>false
def slB(P:Program)(x:Nat×Nat):Bool :=
 match P.underlying x.1 with
 |some (.slice e)=>decide (e=x.2)
 |_=>false
def ikB(P:Program)(x:Nat×IntKind):Bool :=
 match P.underlying x.1 with
 |some (.int k)=>decide (k=x.2)
 |_=>false
def zrB(P:Program)(x:Nat×List Value):Bool :=
 match P.info? x.1 with
 |some i=>match i.zero with
  |some v=>lB v.cells.toList x.2
  |none=>false
 |none=>false
def fnB(P:Program)(f:Nat):Bool :=
 match P.funcs[f]? with
 | some fn => !fn.body.isNone && !(fn.name == "runtime.NumGoroutine")
 |none=>false
theorem look_mem{α:Type}:∀ {l:List (Nat×α)} {t:Nat} {v:α},look l t=some v→(t,v)∈l
 |[],_,_,h=>by simp [look] at h
 |(k,u)::l,t,v,h=>by
  simp only [look] at h
  cases e:Nat.beq k t with
  |true =>
   rw [e] at h
   have h1:k=t:=Nat.eq_of_beq_eq_true e
   have h2:u=v:=by simpa using h
   rw [h1,h2];exact List.mem_cons_self
  |false=>rw [e] at h;exact List.mem_cons_of_mem _ (look_mem (by simpa using h))
theorem TabOk.of{P:Program}{T:Tab}(h0:P.follows .mixedOrders=true)(h1:T.tk.all (tkB P)=true)(h2:T.fo.all (foB P)=true)(h3:T.ar.all (arB P)=true)(h4:T.sl.all (slB P)=true)(h5:T.ik.all (ikB P)=true)(h6:T.zr.all (zrB P)=true)(h7:(List.range (T.f1+1)).all (fun f=>Nat.blt f T.f0||fnB P f)=true):TabOk P T where
 mixed:=h0
 sc:=fun t h=>by
  have:=List.all_eq_true.1 h1 _ (look_mem h)
  unfold tkB at this
  split at this
  ·rename_i d i hd hi;exact⟨d,i,hd,by simp at this;exact this.1,hi,by simp at this;exact this.2⟩
  ·cases this
 ag:=fun t n h=>by
  have:=List.all_eq_true.1 h1 _ (look_mem h)
  unfold tkB at this
  split at this
  ·rename_i d i hd hi;exact⟨d,i,hd,by simp at this;exact this.1,hi,by simp at this;exact this.2⟩
  ·cases this
 fo:=fun s l h=>by
  have:=List.all_eq_true.1 h2 _ (look_mem h)
  unfold foB at this
  simp only [Bool.and_eq_true] at this
  have:=this.1
  split at this
  ·rename_i fs hu;exact⟨fs,hu,of_decide_eq_true this⟩
  ·cases this
 foz:=fun s l h d hd=>by
  have:=List.all_eq_true.1 h2 _ (look_mem h)
  unfold foB at this
  simp only [Bool.and_eq_true] at this
  have:=List.all_eq_true.1 this.2 d hd
  split at this
  ·rename_i i hi;exact⟨i,hi,by simpa using this⟩
  ·cases this
 ar:=fun t n e h=>by
  have:=List.all_eq_true.1 h3 _ (look_mem h)
  unfold arB at this
  split at this
  ·rename_i n' e' hu;have e:=of_decide_eq_true this;rw [hu];cases e;rfl
  ·cases this
 sl:=fun t e h=>by
  have:=List.all_eq_true.1 h4 _ (look_mem h)
  unfold slB at this
  split at this
  ·rename_i e' hu;have e:=of_decide_eq_true this;rw [hu];cases e;rfl
  ·cases this
 ik:=fun t k h=>by
  have:=List.all_eq_true.1 h5 _ (look_mem h)
  unfold ikB at this
  split at this
  ·rename_i k' hu;have e:=of_decide_eq_true this;rw [hu];cases e;rfl
  ·cases this
 fn:=fun f h8 h9=>by
  have:=List.all_eq_true.1 h7 f (List.mem_range.2 (by omega))
  have hb:Nat.blt f T.f0=false:=by
   cases e:Nat.blt f T.f0 with
   |false=>rfl
   |true=>have:=nLe e;omega
  rw [hb] at this
  simp only [Bool.false_or] at this
  unfold fnB at this
  split at this
  ·rename_i fn hfn;exact⟨fn,hfn,by simpa using this⟩
  ·cases this
 zr:=fun t z h=>by
  have:=List.all_eq_true.1 h6 _ (look_mem h)
  unfold zrB at this
  split at this
  ·rename_i i hi
   split at this
   ·rename_i v hv;exact⟨i,v,hi,hv,lB_eq this⟩
   ·cases this
  ·cases this
theorem lookB{α β:Type}{l:List (Nat×α)}{f:α→Option β}{t:Nat}{b:β}(h:(look l t).bind f=some b):∃ a,look l t=some a∧f a=some b:=by
 cases e:look l t with
 |none=>rw [e] at h;cases h
 |some a=>rw [e] at h;exact⟨a,rfl,h⟩
theorem extract_mid(l:List Value)(o s:Nat):(⟨l⟩:Array Value).extract o (o+s)=⟨(l.drop o).take s⟩:=by
 apply Array.ext'
 simp [List.drop_take]
theorem addr_add(b o n:Nat):(⟨b,o,none⟩:Addr).add n=⟨b,o+n,none⟩:=by unfold Addr.add;split<;>simp_all
section
variable{P:Program}{T:Tab}(hT:TabOk P T)
include hT
theorem run_sz{t:Nat}{k:TK}(h:look T.tk t=some k)(n:World):(sizeOf t).run P n=.ok (szOf k) n:=by
 cases k with
 |sc=>obtain⟨d,i,_,_,hi,hs⟩:=hT.sc t h;simp [sizeOf,typeInfo,hi,hs,szOf]
 |ag m=>obtain⟨d,i,_,_,hi,hs⟩:=hT.ag t m h;simp [sizeOf,typeInfo,hi,hs,szOf]
theorem run_agg{t:Nat}{k:TK}(h:look T.tk t=some k)(n:World):(isAgg t).run P n=.ok (match k with|.sc=>false|.ag _=>true) n:=by
 cases k with
 |sc=>obtain⟨d,i,hd,hr,_⟩:=hT.sc t h;unfold isAgg;rw [Sem.run_bind,run_underlying hd n];cases d<;>simp_all
 |ag m=>obtain⟨d,i,hd,hr,_⟩:=hT.ag t m h;unfold isAgg;rw [Sem.run_bind,run_underlying hd n];cases d<;>simp_all
theorem run_load_sc{t b o:Nat}{v:Value}{n:World}(h:look T.tk t=some .sc)(hc:n.cell? ⟨b,o,none⟩=some v):(Instr.loadAt t (.pointer (some ⟨b,o,none⟩))).run P n=.ok v n:=by
 simp only [Instr.loadAt,Instr.sureAddr,Sem.run_bind,Sem.run_pure,Result.andThen_ok,loadVar,run_agg hT h]
 simp [load,Sem.run,hc]
theorem run_load_ag{t b o k:Nat}{cs:List Value}{n:World}(h:look T.tk t=some (.ag k))(hk:cs.length=k)(hc:n.rangeAt b o cs):(Instr.loadAt t (.pointer (some ⟨b,o,none⟩))).run P n=.ok (.agg ⟨cs⟩) n:=by
 obtain⟨d,i,hd,hr,hi,hs⟩:=hT.ag t k h
 exact run_loadAt_mid n b o t cs d hc hd hr (by rw [hi,hk];simp [hs])
theorem run_part_sc{t off:Nat}{l:List Value}{v:Value}{n:World}(h:look T.tk t=some .sc)(hv:l[off]?=some v):(part t ⟨l⟩ off).run P n=.ok v n:=by
 unfold part
 rw [Sem.run_bind,run_agg hT h]
 have:(⟨l⟩:Array Value)[off]?=some v:=by simpa using hv
 simp only [Result.andThen_ok,Bool.false_eq_true,if_false,this];rfl
theorem run_part_ag{t off s:Nat}{l:List Value}{n:World}(h:look T.tk t=some (.ag s)):(part t ⟨l⟩ off).run P n=.ok (.agg ⟨(l.drop off).take s⟩) n:=by
 unfold part
 rw [Sem.run_bind,run_agg hT h]
 simp only [Result.andThen_ok,if_true,Sem.run_bind,run_sz hT h,szOf,Sem.run_pure,extract_mid]
theorem run_field{s f:Nat}{d:Nat×Nat}(h:(look T.fo s).bind (nth · f)=some d):∃ fs fl,P.underlying s=some (.struct fs)∧fs[f]?=some fl∧fl.offset=d.1∧fl.type=d.2∧∃ i,P.info? d.2=some i∧i.size≠0:=by
 obtain⟨l,h1,h2⟩:=lookB h
 obtain⟨fs,h3,h4⟩:=hT.fo s l h1
 rw [nth_eq] at h2
 have h5:l[f]?=some d:=h2
 have h6:=h5
 rw [← h4] at h6
 simp only [List.getElem?_map] at h6
 cases e:fs.toList[f]? with
 |none=>rw [e] at h6;cases h6
 |some fl =>
  rw [e] at h6
  simp only [Option.map_some,Option.some.injEq] at h6
  subst h6
  exact⟨fs,fl,h3,by simpa using e,rfl,rfl,hT.foz s l h1 _ (List.mem_of_getElem? h5)⟩
theorem run_fieldAt{s f b o:Nat}{d:Nat×Nat}(h:(look T.fo s).bind (nth · f)=some d)(n:World):(Instr.fieldAt s (.pointer (some ⟨b,o,none⟩)) f).run P n=.ok (.pointer (some ⟨b,o+d.1,none⟩)) n:=by
 obtain⟨fs,fl,h1,h2,h3,h4,i,h5,h6⟩:=run_field hT h
 rw [← h4] at h5
 simp [Instr.fieldAt,run_underlying h1,h2,Instr.sureAddr,fieldPlace,sizeOf,typeInfo,h5,h6,addr_add,h3]
theorem run_indexAt_sl{t e b o n c:Nat}{k:TK}{ik:IntKind}{j:Nat}(h:look T.sl t=some e)(hk:look T.tk e=some k)(hj:j<n)(w:World):(Instr.indexAt t (.slice (some ⟨b,o,none⟩) n c) (.int ik j)).run P w=.ok (.pointer (some ⟨b,o+j*szOf k,none⟩)) w:=by
 have h1:=hT.sl t e h
 simp [Instr.indexAt,asIntOf,run_underlying h1,run_sz hT hk,addr_add,hj]
theorem run_indexAt_ar{t e b o n:Nat}{k:TK}{ik:IntKind}{j:Nat}(h:look T.ar t=some (n,e))(hk:look T.tk e=some k)(hj:j<n)(w:World):(Instr.indexAt t (.pointer (some ⟨b,o,none⟩)) (.int ik j)).run P w=.ok (.pointer (some ⟨b,o+j*szOf k,none⟩)) w:=by
 have h1:=hT.ar t n e h
 simp [Instr.indexAt,asIntOf,run_underlying h1,run_sz hT hk,addr_add,hj,Instr.sureAddr]
theorem run_callFunc{f:Nat}(h:(Nat.ble T.f0 f&&Nat.ble f T.f1)=true)(args:Array Value)(n:World):(callFunc f args).run P n=.ok (.enter f args) n:=by
 simp only [Bool.and_eq_true] at h
 obtain⟨fn,h1,h2,h3⟩:=hT.fn f (nLe h.1) (nLe h.2)
 have h4 : ¬ fn.name = "runtime.NumGoroutine" := by simpa using h3
 have h5:¬ fn.body=none:=by cases e:fn.body<;>simp_all
 simp [callFunc,program,Sem.run,h1,h5,h4]
end
theorem P1_av1(S:Nat→Prop)(w:World)(v:Value):P1 S w (av1 v) v:=by
 unfold av1
 split<;>simp [P1]
theorem PL_av1(S:Nat→Prop)(w:World):∀ (l:List Value),PL S w (l.map av1) l
 |[]=>rfl
 |v::l=>⟨v,l,rfl,P1_av1 S w v,PL_av1 S w l⟩
theorem P1_av(S:Nat→Prop)(w:World)(v:Value):P1 S w (av v) v:=by
 unfold av
 split
 ·rename_i l;exact⟨l,rfl,PL_av1 S w l⟩
 ·exact P1_av1 S w v
theorem ev_sound{tm:Tm}{x:Operand}{K:AV→Prop}(h:ev tm x K):∃ v,K v∧∀ S n ids a,Sl S n ids tm a→R S n ids v (a.eval x):=by
 unfold ev at h
 split at h
 ·rename_i t
  split at h
  ·rename_i v hv
   refine⟨v,h,fun S n ids a hs=>?_⟩
   obtain⟨V,h1,h2⟩:=hs t v hv
   have:a.eval (.tmp t)=V:=by
    show a.tmps.getD t undef=_
    rw [Array.getD_eq_getD_getElem?,h1];rfl
   rw [this];exact h2
  ·cases h
 ·rename_i v
  exact⟨av v,(fc_iff _ _).1 h,fun S n ids a _=>P1_R (P1_av S n v)⟩
 ·cases h
 ·rename_i f
  exact⟨_,h,fun S n ids a _=>⟨[],[],rfl,trivial,trivial⟩⟩
theorem evs_sound{tm:Tm}:∀ {l:List Operand} {K:List AV→Prop},evs tm l K→∃ vs,K vs∧∀ S n ids a,Sl S n ids tm a→all2 (R S n ids) vs (l.map a.eval)
 |[],K,h=>⟨[],h,fun _ _ _ _ _=>trivial⟩
 |x::l,K,h=>by
  obtain⟨v,h1,h2⟩:=ev_sound h
  obtain⟨vs,h3,h4⟩:=evs_sound h1
  exact⟨v::vs,h3,fun S n ids a hs=>⟨h2 S n ids a hs,h4 S n ids a hs⟩⟩
def QY(P:Program)(o:Oper)(a:Act)(n:World)(V:Value):Prop :=
 ∀ w,Past n w→(execOp a.eval o).run P w=.ok (.value V) w∨∃ f args,(execOp a.eval o).run P w=.ok (.enter f args) w∧Calls P f args w fun e w'=>e=.returned V∧Below w.heap.size w w'
theorem wrap_i64{x:Int}(h:W.I64 x):IntKind.i64.wrap x=x:=by
 obtain⟨h1,h2⟩:=h
 simp only [IntKind.wrap,IntKind.bits,IntKind.signed]
 simp
 split<;>omega
theorem Br.el{c:Bool}{A B:Prop}(h:Br c A B):(c=true∧A)∨(c=false∧B):=by
 cases c with
 |true=>exact .inl ⟨rfl,h.t rfl⟩
 |false=>exact .inr ⟨rfl,h.f rfl⟩
theorem binOp_int{P:Program}{op:BinOp}{k:IntKind}{a b:Int}{K:AV→Prop}{E:Prop}(h:intBin op k a b K E):E∨∃ v,flat v=true∧K v∧∀ t n,(binOp op t (.int k a) (.int k b)).run P n=.ok (val v) n:=by
 unfold intBin at h
 split at h
 ·split at h
  ·obtain⟨h1,h2⟩:=h
   exact .inr ⟨_,rfl,h2,fun t n=>by simp [binOp,Op.intArith,wrap_i64 h1,val]⟩
  ·exact .inr ⟨_,rfl,h,fun t n=>by simp [binOp,Op.intArith,val]⟩
 ·split at h
  ·obtain⟨h1,h2⟩:=h
   exact .inr ⟨_,rfl,h2,fun t n=>by simp [binOp,Op.intArith,wrap_i64 h1,val]⟩
  ·exact .inr ⟨_,rfl,h,fun t n=>by simp [binOp,Op.intArith,val]⟩
 ·split at h
  ·obtain⟨h1,h2⟩:=h
   exact .inr ⟨_,rfl,h2,fun t n=>by simp [binOp,Op.intArith,wrap_i64 h1,val]⟩
  ·exact .inr ⟨_,rfl,h,fun t n=>by simp [binOp,Op.intArith,val]⟩
 ·split at h
  ·obtain⟨⟨h1,h3,h4⟩,h2⟩:=h
   refine .inr ⟨_,rfl,h2,fun t n=>?_⟩
   have hb:¬ b=0:=by omega
   have e:a.tdiv b=a/b:=Int.tdiv_eq_ediv_of_nonneg h3
   have hi:W.I64 (a/b):=by
    have:a/b≤a:=Int.ediv_le_self _ h3
    have:0≤a/b:=Int.ediv_nonneg h3 (by omega)
    unfold W.I64 at *;omega
   simp [binOp,Op.intDiv,hb,e,wrap_i64 hi,val]
  ·exact .inl h
 ·split at h
  ·obtain⟨⟨h1,h3⟩,h2⟩:=h
   refine .inr ⟨_,rfl,h2,fun t n=>?_⟩
   have hb:¬ b=0:=by omega
   have e:a.tmod b=a%b:=Int.tmod_eq_emod_of_nonneg h3
   simp [binOp,Op.intDiv,hb,e,val]
  ·exact .inl h
 ·exact .inr ⟨_,rfl,h,fun t n=>by simp [binOp,Op.intCmp,val];rfl⟩
 ·exact .inr ⟨_,rfl,h,fun t n=>by simp [binOp,Op.intCmp,val];rfl⟩
 ·exact .inr ⟨_,rfl,h,fun t n=>by simp [binOp,Op.intCmp,val]⟩
 ·exact .inr ⟨_,rfl,h,fun t n=>by simp [binOp,Op.intCmp,val]⟩
 ·exact .inr ⟨_,rfl,h,fun t n=>by simp [binOp,Op.intCmp,val]⟩
 ·exact .inr ⟨_,rfl,h,fun t n=>by simp [binOp,Op.intCmp,val]⟩
 ·exact .inl h
theorem R_flat{S:Nat→Prop}{n:World}{ids:List Loc}{v:AV}(h:flat v=true):R S n ids v (val v):=P1_R ((flat_iff h).2 rfl)
theorem one_of{S:Nat→Prop}{n:World}{ids:List Loc}{v:AV}{V:Value}(h:nagA v=true)(hr:R1 S n ids v V):V.oneCell'=true:=by
 cases v with
 |agg l=>cases h
 |tup l=>cases h
 |raw u=>obtain rfl:V=u:=hr;exact h
 |int k m=>obtain rfl:V=_:=hr;rfl
 |bool b=>obtain rfl:V=_:=hr;rfl
 |emp=>obtain rfl:V=_:=hr;rfl
 |lst sz m f=>obtain⟨A,c,rfl,_⟩:=hr;rfl
 |ptr l=>obtain⟨b,o,cs,rfl,_⟩:=hr;rfl
 |fn f a b=>obtain⟨va,vb,rfl,_⟩:=hr;rfl
 |own i off=>obtain⟨b,_,rfl⟩:=hr;rfl
 |at_ i off=>obtain⟨b,_,rfl⟩:=hr;rfl
 |sl i off sz m c=>obtain⟨b,_,rfl⟩:=hr;rfl
 |gro i m=>obtain⟨L,_,_,_,⟨A,p,q,rfl⟩,_⟩:=hr;rfl
 |mref i=>obtain⟨b,_,rfl⟩:=hr;rfl
theorem cells_one{V:Value}(h:V.oneCell'=true):V.cells=#[V]:=by
 cases V<;>first|rfl|cases h
theorem R_nag{S:Nat→Prop}{n:World}{ids:List Loc}{v:AV}{V:Value}(h:nagA v=true):R S n ids v V↔R1 S n ids v V:=by
 cases v with
 |agg l=>cases h
 |_=>simp only [R]
theorem cellsK_sound{k:TK}{v:AV}{K:List AV→Prop}(h:cellsK k v K):∃ cs,K cs∧cs.length=szOf k∧∀ S n ids V,R S n ids v V→∃ vs,V.cells=⟨vs⟩∧all2 (R1 S n ids) cs vs:=by
 cases k with
 |sc =>
  simp only [cellsK] at h
  cases e:nagA v with
  |false=>rw [e] at h;exact absurd h (by simp)
  |true =>
   rw [e] at h
   exact⟨[v],by simpa using h,rfl,fun S n ids V hr=>⟨[V],cells_one (one_of e ((R_nag e).1 hr)),(R_nag e).1 hr,trivial⟩⟩
 |ag s =>
  cases v with
  |agg l =>
   simp only [cellsK] at h
   cases e:Nat.beq l.length s with
   |true=>rw [e] at h;exact⟨l,by simpa using h,Nat.eq_of_beq_eq_true e,fun S n ids V ⟨vs,e,h⟩=>⟨vs,by rw [e];rfl,h⟩⟩
   |false=>rw [e] at h;exact absurd h (by simp)
  |_=>cases h
theorem fold_set(cs:List Value):∀ (k off:Nat) (l:List Value),off+k+cs.length≤l.length→(cs.zipIdx k).foldl (fun (A:Array Value) (p:Value×Nat)=>A.setIfInBounds (off+p.2) p.1) ⟨l⟩=⟨l.take (off+k)++(cs++(l.drop (off+k)).drop cs.length)⟩:=by
 induction cs with
 |nil=>intro k off l h;simp
 |cons c cs ih =>
  intro k off l h
  simp only [List.length_cons] at h
  have hk:off+k<l.length:=by omega
  obtain⟨l1,x,l2,rfl,hl⟩:∃ l1 x l2,l=l1++x::l2∧l1.length=off+k :=
   ⟨l.take (off+k),l[off+k],l.drop (off+k+1),by rw [← List.drop_eq_getElem_cons hk,List.take_append_drop],by simp;omega⟩
  rw [List.zipIdx_cons,List.foldl_cons,show (⟨l1++x::l2⟩:Array Value).setIfInBounds (off+k) c=⟨l1++c::l2⟩ by rw [← hl];simp,ih (k+1) off _ (by simp at h ⊢;omega)]
  rw [show off+(k+1)=l1.length+1 by omega,← hl]
  simp [List.take_append,List.drop_append]
  rw [List.take_of_length_le (by omega),List.drop_eq_nil_of_le (by omega)];simp
theorem fill_step{place:Nat→Option (Nat×Nat)}{l cs:List Value}{i off s:Nat}{v:Value}{rest:List (Nat×Value)}(hp:place i=some (off,s))(hc:v.cells=⟨cs⟩)(hs:cs.length=s)(hl:off+cs.length≤l.length) :
  Instr.fill place ⟨l⟩ ((i,v)::rest)=Instr.fill place ⟨l.take off++(cs++(l.drop off).drop cs.length)⟩ rest:=by
 have hsz:v.cells.size=cs.length:=by rw [hc];rfl
 rw [Instr.fill]
 simp only [hp,hsz]
 rw [if_neg (by simp [hs] at *;omega)]
 congr 1
 have:=fold_set cs 0 off l (by omega)
 rw [hc]
 simpa [← Array.foldl_toList] using this
theorem all2.over{α β:Type}{Q:α→β→Prop}{l cs:List α}{r vs:List β}{off:Nat}(h:all2 Q l r)(hc:all2 Q cs vs):all2 Q (l.take off++(cs++(l.drop off).drop cs.length)) (r.take off++(vs++(r.drop off).drop vs.length)):=by
 rw [hc.len]
 exact(h.take off).app (hc.app ((h.drop off).drop cs.length))
theorem partsK_sound{tm:Tm}{pl:Nat→Option (Nat×TK)}:∀ {parts:List (Nat×Operand)} {z:List AV} {K:List AV→Prop},partsK tm pl parts z K→∃ z',K z'∧∀ S n ids a,Sl S n ids tm a→∀ zv,all2 (R1 S n ids) z zv→∃ zv',all2 (R1 S n ids) z' zv' ∧
  ∀ place:Nat→Option (Nat×Nat),(∀ i d,pl i=some d→place i=some (d.1,szOf d.2))→Instr.fill place ⟨zv⟩ (parts.map fun p=>(p.1,a.eval p.2))=some ⟨zv'⟩
 |[],z,K,h=>⟨z,h,fun S n ids a hs zv hz=>⟨zv,hz,fun place hp=>rfl⟩⟩
 |(i,x)::parts,z,K,h=>by
  simp only [partsK] at h
  split at h
  ·cases h
  ·rename_i off k hpl
   obtain⟨v,h1,h2⟩:=ev_sound h
   obtain⟨cs,h3,h4,h5⟩:=cellsK_sound h1
   rw [setK_iff] at h3
   obtain⟨z',h6,h7⟩:=partsK_sound h3.2
   refine⟨z',h6,fun S n ids a hs zv hz=>?_⟩
   obtain⟨vs,g1,g2⟩:=h5 S n ids _ (h2 S n ids a hs)
   obtain⟨zv',g3,g4⟩:=h7 S n ids a hs _ (hz.over (off:=off) g2)
   refine⟨zv',g3,fun place hp=>?_⟩
   rw [List.map_cons,fill_step (l:=zv) (cs:=vs) (hp i _ hpl) g1 (by rw [g2.len];exact h4) (by rw [g2.len,hz.len];exact h3.1)]
   exact g4 place hp
theorem all2.head{α β:Type}{Q:α→β→Prop}{l r:List α}{k:Nat}{v:α}{vs:List β}(h:all2 Q l vs)(e:l.drop k=v::r):∃ V,vs[k]?=some V∧Q v V:=by
 have:l[k]?=some v:=by
  have h1:(l.drop k)[0]?=some v:=by rw [e];rfl
  simpa using h1
 exact h.get this
section
variable{N:Nat}{E:En}{tm:Tm}{own:Ow}{S:Nat→Prop}{ids:List Loc}{a:Act}{n:World}
theorem Sim.blk(hs:Sim N E tm own S ids a n){i:Nat}{cs:List AV}(h:nth own i=some (.blk cs)):∃ b vs,nth ids i=some (Loc.at_ b)∧all2 (R1 S n ids) cs vs∧Bx n b vs:=by
 obtain⟨L,hL⟩:=nth_of_lt (l:=ids) (i:=i) (by rw [hs.len];exact nth_lt h)
 obtain⟨b,vs,rfl,h1,h2⟩:=hs.live i _ L h hL
 exact⟨b,vs,hL,h1,h2⟩
theorem Loc.at_inj{b b':Nat}(h:Loc.at_ b=Loc.at_ b'):b=b':=by
 have:=congrArg Loc.blk h;simpa [Loc.at_] using this
theorem Rx.sub{w:World}{b o:Nat}{cs:List Value}(h:Rx w b o cs)(d:Nat):Rx w b (o+d) (cs.drop d):=⟨fun j v hj=>by rw [Nat.add_assoc];exact h.cell _ v (by simpa using hj),h.lt⟩
theorem PL.drop{S:Nat→Prop}{w:World}{l:List AV}{vs:List Value}(h:PL S w l vs)(d:Nat):PL S w (l.drop d) (vs.drop d):=PL_iff.2 ((PL_iff.1 h).drop d)
theorem Rx_of{w:World}{b o:Nat}{cs:List Value}(h:Bx w b cs):Rx w b o (cs.drop o):=⟨fun j v hj=>h.cell _ v (by simpa using hj),h.lt⟩
theorem Rx.past'{w w':World}{b o:Nat}{cs:List Value}(h:Rx w b o cs)(hp:Past w w'):Rx w' b o cs:=Rx.keep h hp.size (hp.block b h.lt)
theorem ldK_sound{P:Program}{T:Tab}(hT:TabOk P T){t:Nat}{k:TK}(hk:look T.tk t=some k){cs:List AV}{K:AV→Prop}(h:ldK k cs K):∃ v,K v∧∀ S n ids b o vs,all2 (R1 S n ids) cs vs→Rx n b o vs →
  ∃ V,R S n ids v V∧∀ w,Past n w→(Instr.loadAt t (.pointer (some ⟨b,o,none⟩))).run P w=.ok V w:=by
 cases k with
 |sc =>
  simp only [ldK] at h
  rw [oneK_iff] at h
  obtain⟨v,r,rfl,h1,h2⟩:=h
  refine⟨v,h2,fun S n ids b o vs hv hx=>?_⟩
  obtain⟨V,e,hV⟩:=hv.head (k:=0) rfl
  exact⟨V,(R_nag h1).2 hV,fun w hp=>run_load_sc hT hk (by have:=(Rx.past' hx hp).cell 0 V e;simpa using this)⟩
 |ag s =>
  simp only [ldK] at h
  rw [takeK_iff] at h
  refine⟨_,h.2,fun S n ids b o vs hv hx=>⟨.agg ⟨vs.take s⟩,⟨_,rfl,hv.take s⟩,fun w hp=>run_load_ag hT hk (by simp [hv.len];exact Nat.min_eq_left h.1) (fun j v hj=>(Rx.past' hx hp).cell j v (by
   rw [List.getElem?_take] at hj
   split at hj
   ·exact hj
   ·cases hj))⟩⟩
end
end Y
end Go.Proofs.YtllemifiammnnaaGreat
