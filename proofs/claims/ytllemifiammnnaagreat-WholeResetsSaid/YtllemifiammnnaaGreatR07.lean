/- Part 7 of the proof. No condition. -/
import Derived.Laws.MakeOwn
import Derived.Test.YtllemifiammnnaaGreatR06
set_option linter.unusedVariables false
set_option linter.unusedSimpArgs false
set_option maxRecDepth 100000
set_option maxHeartbeats 4000000
namespace Go.Proofs.YtllemifiammnnaaGreat
namespace Y
open Go Go.RowKit Go.Sort
section
variable{P:Program}{T:Tab}{o:Oper}{tm:Tm}{own:Ow}{K:AV→Prop}
theorem QAt.slLo(hT:TabOk P T){t e:Nat}{k:TK}{x y:Operand}{i off sz n c l:Nat}{ik:IntKind}(ho:o.op=.slice t x (some y) none none)(hs:look T.sl t=some e)(hk:look T.tk e=some k)(hx:ev tm x fun v=>v=.sl i off sz n c)(hy:ev tm y fun v=>v=.int ik (l:Int))(hz:szOf k=sz)(hl:l≤n)(hc:l<c)(hK:K (.sl i (off+l*sz) sz (n-l) (c-l))):QAt P o tm own K:=by
 refine⟨_,hK,fun N E S ids a w hs'=>?_⟩
 obtain⟨u,rfl,h1⟩:=ev_sound hx
 obtain⟨u',rfl,h2⟩:=ev_sound hy
 obtain⟨b,g1,g2⟩:=(h1 S w ids a hs'.sl).sl
 have g3:=(h2 S w ids a hs'.sl).int
 refine⟨.slice (some ⟨b,off+l*sz,none⟩) (n-l) (c-l),⟨b,g1,rfl⟩,fun w' hp=>?_⟩
 have hne:¬ c=l:=by omega
 have hl':(l:Int)≤n:=by omega
 unfold execOp
 simp only [ho]
 simp [Instr.sliceAt,Instr.slice,Instr.sliceBounds,Instr.sliceBound,asIntOf,run_underlying (hT.sl t e hs),g2,g3,hl,Nat.not_lt.2 hl,run_sz hT hk,hz,hne,addr_add]
theorem QAt.slHi(hT:TabOk P T){t e:Nat}{k:TK}{x y:Operand}{i off sz n c l:Nat}{ik:IntKind}(ho:o.op=.slice t x none (some y) none)(hs:look T.sl t=some e)(hk:look T.tk e=some k)(hx:ev tm x fun v=>v=.sl i off sz n c)(hy:ev tm y fun v=>v=.int ik (l:Int))(hz:szOf k=sz)(hl:l≤c)(hc:0<c)(hK:K (.sl i off sz l c)):QAt P o tm own K:=by
 refine⟨_,hK,fun N E S ids a w hs'=>?_⟩
 obtain⟨u,rfl,h1⟩:=ev_sound hx
 obtain⟨u',rfl,h2⟩:=ev_sound hy
 obtain⟨b,g1,g2⟩:=(h1 S w ids a hs'.sl).sl
 have g3:=(h2 S w ids a hs'.sl).int
 refine⟨.slice (some ⟨b,off,none⟩) l c,⟨b,g1,rfl⟩,fun w' hp=>?_⟩
 have hne:¬ c=0:=by omega
 have hl':(l:Int)≤c:=by omega
 unfold execOp
 simp only [ho]
 simp [Instr.sliceAt,Instr.slice,Instr.sliceBounds,Instr.sliceBound,asIntOf,run_underlying (hT.sl t e hs),g2,g3,hl,Nat.not_lt.2 hl,run_sz hT hk,hz,hne,addr_add]
end
theorem ar1(l:List Int)(r:List Value):ar i1 l r=l.map I++r.map AV.raw:=by
 unfold ar
 congr 1
 induction l with
 |nil=>rfl
 |cons x l ih=>rw [List.flatMap_cons,ih];rfl
theorem rep_R1{S:Nat→Prop}{w:World}{ids:List Loc}:∀ n:Nat,all2 (R1 S w ids) (List.replicate n (I 0)) (List.replicate n (.int .i64 0))
 |0=>trivial
 |n+1=>⟨rfl,rep_R1 n⟩
theorem zeroCells1(n:Nat):(Builtin.zeroCells #[.int .i64 0] n).toList=List.replicate n (.int .i64 0):=by
 unfold Builtin.zeroCells
 apply List.ext_getElem
 ·simp
 ·intro i h1 h2
  have e:i%1=0:=by omega
  simp [e]
theorem OpAt.clear1{P:Program}{T:Tab}(hT:TabOk P T){N:Nat}{E:En}{o:Oper}{K:Tm→Ow→Prop}{tm:Tm}{own:Ow}{t e:Nat}{x:Operand}{i off n c:Nat}{l:List Int}{r:List Value}(ho:o.op=.call { callee:=.builtin .clear,args:=#[x],argTypes:=#[t] })(hd:o.dst=none)(hs:look T.sl t=some e)(hz:∀ w,(zeroValue e).run P w=.ok (.int .i64 0) w)(hx:ev tm x fun v=>v=.sl i off 1 n c)(hn:0<n)(hb:nth own i=some (.blk (ar i1 l r)))(hl:off+n≤l.length)
  (hK:∀ l':List Int,l'.length=l.length→l'.take off=l.take off→K tm (own.set i (.blk (ar i1 l' r)))):OpAt P N E o K tm own:=by
 refine⟨fun S ids a w hs' Q=>?_⟩
 obtain⟨u,rfl,h1⟩:=ev_sound hx
 obtain⟨b,g1,g2⟩:=(h1 S w ids a hs'.sl).sl
 have hlen:(ar i1 l r).length=l.length+r.length:=by rw [ar1];simp
 have hst:=hs'.store (off:=off) (cs:=List.replicate n (I 0)) (vs:=List.replicate n (.int .i64 0)) hb g1 (rep_R1 n) (by rw [hlen,List.length_replicate];omega)
 obtain⟨b',ls,q1,q2,q3⟩:=hs'.blk hb
 obtain rfl:=Loc.at_inj (Option.some.inj (g1.symm.trans q1))
 have e1:(ar i1 l r).take off++(List.replicate n (I 0)++((ar i1 l r).drop off).drop (List.replicate n (I 0)).length)=ar i1 (l.take off++(List.replicate n 0++l.drop (off+n))) r:=by
  rw [ar1,ar1,List.length_replicate,List.drop_drop,List.take_append_of_le_length (by simp;omega),List.drop_append_of_le_length (by simp;omega),List.map_append,List.map_append,List.map_replicate,List.map_take,List.map_drop]
  simp only [List.append_assoc]
 rw [e1] at hst
 have hk:=hK (l.take off++(List.replicate n 0++l.drop (off+n))) (by simp;omega) (by rw [List.take_append_of_le_length (by rw [List.length_take];omega),List.take_take];simp)
 have hcell:∀ j,j<n→∃ v,ls[off+j]?=some v:=fun j hj=>by
  have hl2:ls.length=l.length+r.length:=by rw [q2.len,hlen]
  exact⟨ls[off+j],List.getElem?_eq_getElem (by omega)⟩
 have h2:=run_storeCells_cells (P:=P) b off (List.replicate n (Value.int .i64 0)) 0 w (fun j hj=>by
   rw [List.length_replicate] at hj
   obtain⟨v,hv⟩:=hcell j hj
   rw [Nat.add_zero]
   rw [q3.cell _ _ hv];exact rfl) (fun j hj=>by
   rw [List.length_replicate] at hj
   rw [Nat.add_zero]
   exact q3.free _ (by have hl2:ls.length=l.length+r.length:=(by rw [q2.len,hlen]);omega)) (fun x hx=>by rw [List.eq_of_mem_replicate hx];rfl)
 have hrun:(Builtin.clear_ #[t] o.type #[a.eval x]).run P w=.ok (.tuple #[]) (w.setCells b off (List.replicate n (.int .i64 0))):=by
  obtain⟨m,rfl⟩:∃ m,n=m+1:=⟨n-1,by omega⟩
  simp [Builtin.clear_,run_underlying (hT.sl t e hs),g2,hz,zeroCells1,Value.cells,h2]
  done
 unfold Oper.wp execOp
 simp only [ho,resolve,invoke,builtin,Sem.run_bind,Sem.run_pure,Result.andThen_ok,List.map_toArray,List.map_cons,List.map_nil,hrun]
 refine⟨tm,_,S,ids,hk,?_⟩
 rw [hd]
 exact hst
theorem mem_take1{l:List Int}{m:Nat}(h:m<l.length)(x:Int):x∈l.take (m+1)↔x∈l.take m∨x=l.getD m 0:=by
 rw [List.take_succ_eq_append_getElem h,List.mem_append,List.mem_singleton]
 simp [List.getD,h]
theorem mem_take_of{l:List Int}{m j:Nat}(h:j<m)(h2:j<l.length):l.getD j 0∈l.take m:=by
 rw [List.mem_take_iff_getElem]
 exact⟨j,by omega,by simp [List.getD,h2]⟩
theorem mem_set1{l:List Int}{m:Nat}(v:Int)(h:m<l.length)(x:Int):x∈(l.set m v).take (m+1)↔x∈l.take m∨x=v:=by
 rw [mem_take1 (by simpa using h),List.take_set_of_le (Nat.le_refl _)]
 simp [List.getD,h]
theorem compactO(l:List Int)(r:List Value)(n c:Nat)(hn:l.length=n)(h0:0<n)(hnc:n≤c)(hc:n≤1000000) :
  RetV Tryz.prog 202 [.blk (ar i1 l r)] [.sl 0 0 1 n c] (fun v gs=>∃ (k:Nat) (l':List Int),k≤n∧v=.sl 0 0 1 k c∧gs=[.blk (ar i1 l' r)]∧l'.length=l.length∧∀ x,x∈l'.take k↔x∈l):=by
 have fin:∀ (k:Nat) (l':List Int),k≤n→l'.length=l.length→(∀ x,x∈l'.take k↔x∈l)→FinV 1 [.sl 0 0 1 k c] [.blk (ar i1 l' r)] (fun v gs=>∃ (k:Nat) (l':List Int),k≤n∧v=.sl 0 0 1 k c∧gs=[.blk (ar i1 l' r)]∧l'.length=l.length∧∀ x,x∈l'.take k↔x∈l):=fun k l' h1 h2 h3 =>
  ⟨_,rfl,rfl,rfl,Nat.le_refl _,okAr,k,l',h1,rfl,rfl,h2,h3⟩
 have all:∀ x,x∈l.take n↔x∈l:=fun x=>by rw [List.take_of_length_le (by omega)]
 refine enterV tabOk (N:=61) (gs:=[_]) (args:=[_]) Tryz.func202 rfl rfl rfl (nLe rfl) (fun E hE=>?_)
 conv=>whnf
 repeat' ((refine Br.d (fun h=>?_) (fun h=>?_))<;>conv=>whnf)
 ·exact fin n l (Nat.le_refl _) rfl all
 ·refine LoopAt.rule tabOk [(0,_)] (fun (k:Nat)=>[(3,.int .i64 (k:Int))]) (fun (k:Nat)=>[.blk (ar i1 l r)]) (fun (k:Nat)=>1≤k∧k≤n) (fun (k:Nat)=>n-k) 1 (by (repeat refine And.intro (by first|rfl|exact congrArg (fun z=>some (AV.int .i64 z)) (by first|omega|(dsimp only;omega))) ?_);exact trivial) ⟨Nat.le_refl _,h0⟩ (by (repeat refine And.intro (by first|rfl|exact congrArg (fun z=>some (AV.int .i64 z)) (by first|omega|(dsimp only;omega))) ?_);exact trivial) (by (repeat refine And.intro (by first|rfl|exact congrArg (fun z=>some (AV.int .i64 z)) (by first|omega|(dsimp only;omega))) ?_);exact trivial) (fun _=>⟨rfl,rfl,okAr,by simp [hE]⟩) (fun k hk=>?_)
  obtain⟨hk1,hk2⟩:=hk
  conv=>whnf
  repeat' (first|((first|with_reducible refine Ix.nat _ ?_|refine Ix.tn (by omega) ?_|refine Pc.sym ?_|refine LdAt.one (e:=i1) (v:=I) (fun _=>rfl) (fun _=>rfl) 0 rfl _ rfl (by omega) ?_|refine QAt.slLo tabOk (l:=k) rfl rfl rfl rfl rfl rfl (by omega) (by omega) ?_|refine Ob.mk (by omega) ?_|refine Ob.mk (by unfold W.I64 at *;omega) ?_|refine Drw.loose (by kernel_rfl) ?_);conv=>whnf)|((refine Br.d (fun h=>?_) (fun h=>?_))<;>conv=>whnf))
  ·have hkk:l.getD k 0=l.getD (k-1) 0:=by
    have:=h
    simpa using this
   refine LoopAt.rule tabOk [(0,_),(4,_)] (fun (q:Nat×Nat×List Int)=>[(3,.int .i64 (q.1:Int)),(5,.int .i64 (q.2.1:Int))]) (fun (q:Nat×Nat×List Int)=>[.blk (ar i1 q.2.2 r)]) (fun (q:Nat×Nat×List Int)=>k≤q.1∧q.1+1≤k+q.2.1∧k+q.2.1≤n∧1≤q.2.1∧q.2.2.length=l.length∧(∀ j,k+q.2.1≤j+1→q.2.2.getD j 0=l.getD j 0)∧∀ x,x∈q.2.2.take q.1↔x∈l.take (k+q.2.1)) (fun (q:Nat×Nat×List Int)=>n-k-q.2.1) (k,1,l) (by (repeat refine And.intro (by first|rfl|exact congrArg (fun z=>some (AV.int .i64 z)) (by first|omega|(dsimp only;omega))) ?_);exact trivial) ⟨Nat.le_refl _,Nat.le_refl _,by dsimp only;omega,Nat.le_refl _,rfl,fun _ _=>rfl,fun x=>?_⟩ (by (repeat refine And.intro (by first|rfl|exact congrArg (fun z=>some (AV.int .i64 z)) (by first|omega|(dsimp only;omega))) ?_);exact trivial) (by (repeat refine And.intro (by first|rfl|exact congrArg (fun z=>some (AV.int .i64 z)) (by first|omega|(dsimp only;omega))) ?_);exact trivial) (fun _=>⟨rfl,rfl,okAr,by simp [hE]⟩) (fun q hk=>?_)
   ·dsimp only
    rw [mem_take1 (by omega),hkk]
    exact⟨.inl,fun h=>h.elim id fun e=>e ▸ mem_take_of (by omega) (by omega)⟩
   obtain⟨q,k2,l1⟩:=q
   obtain⟨g1,g2,g3,g4,g5,g6,g7⟩:=hk
   dsimp only at g1 g2 g3 g4 g5 g6 g7 ⊢
   conv=>whnf
   repeat' (first|((first|with_reducible refine Ix.nat _ ?_|refine Ix.tn (by omega) ?_|refine Pc.sym ?_|refine LdAt.one (e:=i1) (v:=I) (fun _=>rfl) (fun _=>rfl) 0 rfl _ rfl (by omega) ?_|refine StAt.el (e:=i1) (n:=1) i1_len _ rfl rfl _ (Nat.mul_one _).symm (by first|omega|(simp only [List.length_set];omega)) ?_|refine QAt.slLo tabOk (l:=q) rfl rfl rfl rfl rfl rfl (by omega) (by omega) ?_|refine QAt.slHi tabOk (l:=q) rfl rfl rfl rfl rfl rfl (by omega) (by omega) ?_|refine OpAt.clear1 tabOk rfl rfl rfl (fun w=>by kernel_rfl) rfl (by omega) rfl (by omega) (fun l' e1 e2=>?_)|refine Ob.mk (by omega) ?_|refine Ob.mk (by unfold W.I64 at *;omega) ?_|refine Drw.loose (by kernel_rfl) ?_);conv=>whnf)|((first|refine Br.d (fun h=>?_) (fun h=>?_)|refine Br.n (fun h=>?_) (fun h=>?_))<;>conv=>whnf))
   ·have hv:l1.getD (0+k*1+k2*1) 0=l.getD (k+k2) 0:=by
     rw [show 0+k*1+k2*1=k+k2 by omega]
     exact g6 _ (by omega)
    refine⟨(q+1,k2+1,_),⟨by dsimp only;omega,by dsimp only;omega,by dsimp only;omega,by dsimp only;omega,?_,?_,?_⟩,by dsimp only;omega,(by (repeat refine And.intro (by first|rfl|exact congrArg (fun z=>some (AV.int .i64 z)) (by first|omega|(dsimp only;omega))) ?_);exact trivial),(by trivial),(by trivial)⟩
    ·simpa using g5
    ·intro j hj
     dsimp only at hj ⊢
     rw [← g6 j (by omega)]
     simp only [List.getD_eq_getElem?_getD]
     rw [List.getElem?_set_ne (by omega)]
    ·intro x
     dsimp only
     rw [show 0+q*1=q by omega,mem_set1 _ (by omega),g7,hv,show k+(k2+1)=k+k2+1 by omega,mem_take1 (by omega)]
   ·have hv:l.getD (k+k2) 0=l.getD (k+k2-1) 0:=by
     rw [← g6 (k+k2) (by omega),← g6 (k+k2-1) (by omega)]
     have h2:=h
     rw [show 0+k*1+k2*1=k+k2 by omega,show 0+k*1+((k2:Int)-1).toNat*1=k+k2-1 by omega] at h2
     simpa using h2
    refine⟨(q,k2+1,l1),⟨by dsimp only;omega,by dsimp only;omega,by dsimp only;omega,by dsimp only;omega,g5,fun j hj=>g6 j (by dsimp only at hj;omega),?_⟩,by dsimp only;omega,(by (repeat refine And.intro (by first|rfl|exact congrArg (fun z=>some (AV.int .i64 z)) (by first|omega|(dsimp only;omega))) ?_);exact trivial),(by trivial),(by trivial)⟩
    intro x
    dsimp only
    rw [g7,show k+(k2+1)=k+k2+1 by omega,mem_take1 (by omega),hv]
    exact⟨.inl,fun h=>h.elim id fun e=>e ▸ mem_take_of (by omega) (by omega)⟩
   ·refine fin q l' (by omega) (by omega) (fun x=>?_)
    have e3:l'.take q=l1.take q:=by simpa using e2
    rw [e3,g7,show k+k2=n by omega]
    exact all x
  ·exact⟨k+1,⟨by omega,by omega⟩,by omega,(by (repeat refine And.intro (by first|rfl|exact congrArg (fun z=>some (AV.int .i64 z)) (by first|omega|(dsimp only;omega))) ?_);exact trivial),(by trivial),(by trivial)⟩
  ·exact fin n l (Nat.le_refl _) rfl all
theorem nan64(a:Int):Ret Tryz.prog 241 [I a] (·=.bool false):=by
 refine enterO tabOk (N:=6) (gs:=[]) (args:=[_]) Tryz.func241 rfl rfl rfl (nLe rfl) (fun E hE=>?_)
 conv=>whnf
 repeat' ((refine FinAt.val rfl ?_);conv=>whnf)
 exact eqB (by simp)
theorem less(a b:Int):Ret Tryz.prog 231 [I a,I b] (·=.bool (decide (a<b))):=by
 refine enterO tabOk (N:=17) (gs:=[]) (args:=[_,_]) Tryz.func231 rfl rfl rfl (nLe rfl) (fun E hE=>?_)
 conv=>whnf
 repeat' ((first|refine Br.of rfl ?_|refine CallS.q (nan64 _) rfl ?_|refine FinAt.val rfl ?_);conv=>whnf)
 all_goals rfl
theorem insertO(l:List Int)(r:List Value)(n c:Nat)(x y:Int)(hn:l.length=n)(h0:0≤x)(hab:x≤y)(hb:y≤n)(hc:n≤1000000) :
  SortC i1 1 225 n c l r [I x,I y] (·=.tup []):=by
 obtain⟨a,rfl⟩:=Int.eq_ofNat_of_zero_le h0
 obtain⟨b,rfl⟩:=Int.eq_ofNat_of_zero_le (show 0≤y by omega)
 refine enterO tabOk (N:=49) (gs:=[_]) (args:=[_,_,_]) Tryz.func225 rfl rfl rfl (nLe rfl) (fun E hE=>?_)
 conv=>whnf
 repeat' ((refine Ob.mk (by unfold W.I64 at *;omega) ?_);conv=>whnf)
 refine LoopAt.rule tabOk [(0,_),(1,_),(2,_)] (fun (i:Nat×List Int)=>[(6,.int .i64 (i.1:Int))]) (fun (i:Nat×List Int)=>[.blk (ar i1 i.2 r)]) (fun (i:Nat×List Int)=>i.2.Perm l∧a<i.1∧i.1≤b+1) (fun (i:Nat×List Int)=>b+1-i.1) (a+1,l) (by (repeat refine And.intro (by first|rfl|exact congrArg (fun z=>some (AV.int .i64 z)) (by first|omega|(dsimp only;omega))) ?_);exact trivial) ⟨.refl _,by omega,by dsimp only;omega⟩ (by (repeat refine And.intro (by first|rfl|exact congrArg (fun z=>some (AV.int .i64 z)) (by first|omega|(dsimp only;omega))) ?_);exact trivial) (by (repeat refine And.intro (by first|rfl|exact congrArg (fun z=>some (AV.int .i64 z)) (by first|omega|(dsimp only;omega))) ?_);exact trivial) (fun _=>⟨rfl,rfl,okAr,by simp [hE]⟩) (fun i hk=>?_)
 obtain⟨i,l1⟩:=i
 obtain⟨hp,hi,hi2⟩:=hk
 dsimp only at hp hi hi2 ⊢
 by_cases hlt:i<b
 ·conv=>whnf
  repeat' ((refine Br.pt (by omega) ?_);conv=>whnf)
  refine LoopAt.rule tabOk [(0,_),(1,_),(2,_),(6,_)] (fun (j:Nat×List Int)=>[(7,.int .i64 (j.1:Int))]) (fun (j:Nat×List Int)=>[.blk (ar i1 j.2 r)]) (fun (j:Nat×List Int)=>j.2.Perm l∧a≤j.1∧j.1≤i) (fun (j:Nat×List Int)=>j.1) (i,l1) (by (repeat refine And.intro (by first|rfl|exact congrArg (fun z=>some (AV.int .i64 z)) (by first|omega|(dsimp only;omega))) ?_);exact trivial) ⟨hp,by dsimp only;omega,Nat.le_refl _⟩ (by (repeat refine And.intro (by first|rfl|exact congrArg (fun z=>some (AV.int .i64 z)) (by first|omega|(dsimp only;omega))) ?_);exact trivial) (by (repeat refine And.intro (by first|rfl|exact congrArg (fun z=>some (AV.int .i64 z)) (by first|omega|(dsimp only;omega))) ?_);exact trivial) (fun _=>⟨rfl,rfl,okAr,by simp [hE]⟩) (fun j hk=>?_)
  obtain⟨j,l2⟩:=j
  obtain⟨hp2,hj,hj2⟩:=hk
  dsimp only at hp2 hj hj2 ⊢
  have hl2:=hp2.length_eq
  conv=>whnf
  repeat' (first|((first|with_reducible refine Ix.nat _ ?_|refine Ix.tn (by omega) ?_|refine Pc.sym ?_|refine LdAt.one (e:=i1) (v:=I) (fun _=>rfl) (fun _=>rfl) 0 rfl _ rfl (by omega) ?_|refine StAt.el (e:=i1) (n:=1) i1_len _ rfl rfl _ (Nat.mul_one _).symm (by first|omega|(simp only [List.length_set];omega)) ?_|(refine Drw.len 18 15 rfl rfl ?_;refine Drw.lateP tabOk [0,1,5,6,7,8,9,10,11,12,13,14] [2,3,4] [15,16,17] (by kernel_rfl) (by kernel_rfl) ?_)|refine Br.pt (by assumption) ?_|refine Br.pf (by assumption) ?_|refine Br.of rfl ?_|refine CallX.pu (less _ _) rfl rfl ?_|refine Ob.mk (by omega) ?_|refine Ob.mk (by unfold W.I64 at *;omega) ?_|refine Drw.loose (by kernel_rfl) ?_);conv=>whnf)|((refine Br.d (fun h=>?_) (fun h=>?_))<;>conv=>whnf))
  ·refine⟨(j-1,_),⟨?_,?_,?_⟩,?_,(by (repeat refine And.intro (by first|rfl|exact congrArg (fun z=>some (AV.int .i64 z)) (by first|omega|(dsimp only;omega))) ?_);exact trivial),(by trivial),(by trivial)⟩
   ·exact(swap_perm 0 (by omega) (by omega)).trans hp2
   all_goals dsimp only;omega
  all_goals
   refine⟨(i+1,l2),⟨hp2,?_,?_⟩,?_,(by trivial),(by trivial),(by trivial)⟩
   all_goals dsimp only;omega
 ·conv=>whnf
  repeat' ((refine Br.pf (by omega) ?_);conv=>whnf)
  refine FinAt.asis (ars:=[]) [] RvL.nil (by simp) (by show 1≤_;simp) okAr ⟨rfl,l1,hp,rfl⟩
theorem siftO(l:List Int)(r:List Value)(n c:Nat)(x y z:Int)(hn:l.length=n)(h0:0≤x)(hlo:x≤y)(h1:0≤z)(hb:z+y≤n)(hc:n≤1000000) :
  SortC i1 1 238 n c l r [I x,I y,I z] (·=.tup []):=by
 obtain⟨lo,rfl⟩:=Int.eq_ofNat_of_zero_le h0
 obtain⟨hi,rfl⟩:=Int.eq_ofNat_of_zero_le (show 0≤y by omega)
 obtain⟨first,rfl⟩:=Int.eq_ofNat_of_zero_le h1
 refine enterO tabOk (N:=76) (gs:=[_]) (args:=[_,_,_,_]) Tryz.func238 rfl rfl rfl (nLe rfl) (fun E hE=>?_)
 conv=>whnf
 refine LoopAt.rule tabOk [(0,_),(2,_),(3,_)] (fun (q:Nat×List Int)=>[(8,.int .i64 (q.1:Int))]) (fun (q:Nat×List Int)=>[.blk (ar i1 q.2 r)]) (fun (q:Nat×List Int)=>q.2.Perm l∧q.1≤hi) (fun (q:Nat×List Int)=>hi-q.1) (lo,l) (by (repeat refine And.intro (by first|rfl|exact congrArg (fun z=>some (AV.int .i64 z)) (by first|omega|(dsimp only;omega))) ?_);exact trivial) ⟨.refl _,by dsimp only;omega⟩ (by (repeat refine And.intro (by first|rfl|exact congrArg (fun z=>some (AV.int .i64 z)) (by first|omega|(dsimp only;omega))) ?_);exact trivial) (by (repeat refine And.intro (by first|rfl|exact congrArg (fun z=>some (AV.int .i64 z)) (by first|omega|(dsimp only;omega))) ?_);exact trivial) (fun _=>⟨rfl,rfl,okAr,by simp [hE]⟩) (fun q hk=>?_)
 obtain⟨q,l1⟩:=q
 obtain⟨hp,hq⟩:=hk
 dsimp only at hp hq ⊢
 have hl1:=hp.length_eq
 conv=>whnf
 repeat' (first|((first|refine Ix.tn (by omega) ?_|refine Pc.sym ?_|refine LdAt.one (e:=i1) (v:=I) (fun _=>rfl) (fun _=>rfl) 0 rfl _ rfl (by omega) ?_|refine StAt.el (e:=i1) (n:=1) i1_len _ rfl rfl _ (Nat.mul_one _).symm (by first|omega|(simp only [List.length_set];omega)) ?_|(refine Drw.len 24 21 rfl rfl ?_;refine Drw.lateP tabOk [0,1,2,3,8,9,10,11,12,13,14,15,16,17,18,19,20] [4,5,6,7] [21,22,23] (by kernel_rfl) (by kernel_rfl) ?_)|refine Br.pt (by assumption) ?_|refine Br.pf (by assumption) ?_|refine Br.of rfl ?_|refine CallX.pu (less _ _) rfl rfl ?_|refine Ob.mk (by omega) ?_|refine Ob.mk (by unfold W.I64 at *;omega) ?_|refine Drw.loose (by kernel_rfl) ?_);conv=>whnf)|((first|refine Br.d (fun h=>?_) (fun h=>?_)|refine Br.n (fun h=>?_) (fun h=>?_))<;>conv=>whnf))
 all_goals try exact FinAt.asis (ars:=[]) [] RvL.nil (by simp) (by show 1≤_;simp) okAr ⟨rfl,l1,hp,rfl⟩
 ·refine⟨(2*q+1+1,_),⟨?_,by dsimp only;omega⟩,by dsimp only;omega,(by (repeat refine And.intro (by first|rfl|exact congrArg (fun z=>some (AV.int .i64 z)) (by first|omega|(dsimp only;omega))) ?_);exact trivial),(by trivial),(by trivial)⟩
  exact(swap_perm 0 (by omega) (by omega)).trans hp
 all_goals
  refine⟨(2*q+1,_),⟨?_,by dsimp only;omega⟩,by dsimp only;omega,(by (repeat refine And.intro (by first|rfl|exact congrArg (fun z=>some (AV.int .i64 z)) (by first|omega|(dsimp only;omega))) ?_);exact trivial),(by trivial),(by trivial)⟩
  exact(swap_perm 0 (by omega) (by omega)).trans hp
theorem revO(l:List Int)(r:List Value)(n c:Nat)(x y:Int)(hn:l.length=n)(h0:0≤x)(hab:x<y)(hb:y≤n)(hc:n≤1000000) :
  SortC i1 1 229 n c l r [I x,I y] (·=.tup []):=by
 obtain⟨a,rfl⟩:=Int.eq_ofNat_of_zero_le h0
 obtain⟨b,rfl⟩:=Int.eq_ofNat_of_zero_le (show 0≤y by omega)
 refine enterO tabOk (N:=32) (gs:=[_]) (args:=[_,_,_]) Tryz.func229 rfl rfl rfl (nLe rfl) (fun E hE=>?_)
 conv=>whnf
 repeat' ((refine Ob.mk (by unfold W.I64 at *;omega) ?_);conv=>whnf)
 refine LoopAt.rule tabOk [(0,_)] (fun (q:Nat×Nat×List Int)=>[(6,.int .i64 (q.1:Int)),(7,.int .i64 (q.2.1:Int))]) (fun (q:Nat×Nat×List Int)=>[.blk (ar i1 q.2.2 r)]) (fun (q:Nat×Nat×List Int)=>q.2.2.Perm l∧q.1≤n∧q.2.1<n) (fun (q:Nat×Nat×List Int)=>q.2.1) (a,b-1,l) (by (repeat refine And.intro (by first|rfl|exact congrArg (fun z=>some (AV.int .i64 z)) (by first|omega|(dsimp only;omega))) ?_);exact trivial) ⟨.refl _,by omega,by dsimp only;omega⟩ (by (repeat refine And.intro (by first|rfl|exact congrArg (fun z=>some (AV.int .i64 z)) (by first|omega|(dsimp only;omega))) ?_);exact trivial) (by (repeat refine And.intro (by first|rfl|exact congrArg (fun z=>some (AV.int .i64 z)) (by first|omega|(dsimp only;omega))) ?_);exact trivial) (fun _=>⟨rfl,rfl,okAr,by simp [hE]⟩) (fun q hk=>?_)
 obtain⟨q,p,l1⟩:=q
 obtain⟨hp,hq,hq2⟩:=hk
 dsimp only at hp hq hq2 ⊢
 have hl1:=hp.length_eq
 conv=>whnf
 repeat' (first|((first|with_reducible refine Ix.nat _ ?_|refine Pc.sym ?_|refine LdAt.one (e:=i1) (v:=I) (fun _=>rfl) (fun _=>rfl) 0 rfl _ rfl (by omega) ?_|refine StAt.el (e:=i1) (n:=1) i1_len _ rfl rfl _ (Nat.mul_one _).symm (by first|omega|(simp only [List.length_set];omega)) ?_|(refine Drw.len 16 13 rfl rfl ?_;refine Drw.lateP tabOk [0,1,4,5,6,7,8,9,10,11,12] [2,3] [13,14,15] (by kernel_rfl) (by kernel_rfl) ?_)|refine Ob.mk (by omega) ?_|refine Ob.mk (by unfold W.I64 at *;omega) ?_);conv=>whnf)|((refine Br.d (fun h=>?_) (fun h=>?_))<;>conv=>whnf))
 ·refine⟨(q+1,p-1,_),⟨?_,by dsimp only;omega,by dsimp only;omega⟩,by dsimp only;omega,(by (repeat refine And.intro (by first|rfl|exact congrArg (fun z=>some (AV.int .i64 z)) (by first|omega|(dsimp only;omega))) ?_);exact trivial),(by trivial),(by trivial)⟩
  exact(swap_perm 0 (by omega) (by omega)).trans hp
 ·exact FinAt.asis (ars:=[]) [] RvL.nil (by simp) (by show 1≤_;simp) okAr ⟨rfl,l1,hp,rfl⟩
theorem heapO(l:List Int)(r:List Value)(n c:Nat)(x y:Int)(hn:l.length=n)(h0:0≤x)(hab:x<y)(hb:y≤n)(hc:n≤1000000) :
  SortC i1 1 226 n c l r [I x,I y] (·=.tup []):=by
 obtain⟨a,rfl⟩:=Int.eq_ofNat_of_zero_le h0
 obtain⟨b,rfl⟩:=Int.eq_ofNat_of_zero_le (show 0≤y by omega)
 refine enterO tabOk (N:=56) (gs:=[_]) (args:=[_,_,_]) Tryz.func226 rfl rfl rfl (nLe rfl) (fun E hE=>?_)
 conv=>whnf
 repeat' ((refine Ob.mk (by unfold W.I64 at *;omega) ?_);conv=>whnf)
 refine LoopAt.rule tabOk [(0,_),(6,_),(7,_),(8,_)] (fun (q:Nat×List Int)=>[(9,.int .i64 ((q.1:Int)-1))]) (fun (q:Nat×List Int)=>[.blk (ar i1 q.2 r)]) (fun (q:Nat×List Int)=>q.2.Perm l∧q.1≤b-a) (fun (q:Nat×List Int)=>q.1) ((b-a-1)/2+1,l) (by (repeat refine And.intro (by first|rfl|exact congrArg (fun z=>some (AV.int .i64 z)) (by first|omega|(dsimp only;omega))) ?_);exact trivial) ⟨.refl _,by dsimp only;omega⟩ (by (repeat refine And.intro (by first|rfl|exact congrArg (fun z=>some (AV.int .i64 z)) (by first|omega|(dsimp only;omega))) ?_);exact trivial) (by (repeat refine And.intro (by first|rfl|exact congrArg (fun z=>some (AV.int .i64 z)) (by first|omega|(dsimp only;omega))) ?_);exact trivial) (fun _=>⟨rfl,rfl,okAr,by simp [hE]⟩) (fun q hk=>?_)
 obtain⟨q,l1⟩:=q
 obtain⟨hp,hq⟩:=hk
 dsimp only at hp hq ⊢
 have hl1:=hp.length_eq
 conv=>whnf
 repeat' (first|((refine Ob.mk (by unfold W.I64 at *;omega) ?_);conv=>whnf)|((refine Br.d (fun h=>?_) (fun h=>?_))<;>conv=>whnf))
 ·refine CallS.srt (siftO l1 r n c _ _ _ (by omega) (by omega) (by omega) (by omega) (by omega) hc) rfl (fun _=>rfl) (fun _=>rfl) (fun x l' hx hp'=>?_)
  subst hx
  conv=>whnf
  repeat' ((refine Ob.mk (by unfold W.I64 at *;omega) ?_);conv=>whnf)
  exact⟨(q-1,l'),⟨hp'.trans hp,by dsimp only;omega⟩,by dsimp only;omega,(by (repeat refine And.intro (by first|rfl|exact congrArg (fun z=>some (AV.int .i64 z)) (by first|omega|(dsimp only;omega))) ?_);exact trivial),(by trivial),(by trivial)⟩
 ·refine LoopAt.rule tabOk [(0,_),(6,_),(7,_)] (fun (q:Nat×List Int)=>[(10,.int .i64 ((q.1:Int)-1))]) (fun (q:Nat×List Int)=>[.blk (ar i1 q.2 r)]) (fun (q:Nat×List Int)=>q.2.Perm l∧q.1≤b-a) (fun (q:Nat×List Int)=>q.1) (b-a,l1) (by (repeat refine And.intro (by first|rfl|exact congrArg (fun z=>some (AV.int .i64 z)) (by first|omega|(dsimp only;omega))) ?_);exact trivial) ⟨hp,by dsimp only;omega⟩ (by (repeat refine And.intro (by first|rfl|exact congrArg (fun z=>some (AV.int .i64 z)) (by first|omega|(dsimp only;omega))) ?_);exact trivial) (by (repeat refine And.intro (by first|rfl|exact congrArg (fun z=>some (AV.int .i64 z)) (by first|omega|(dsimp only;omega))) ?_);exact trivial) (fun _=>⟨rfl,rfl,okAr,by simp [hE]⟩) (fun q hk=>?_)
  obtain⟨q,l2⟩:=q
  obtain⟨hp2,hq⟩:=hk
  dsimp only at hp2 hq ⊢
  have hl2:=hp2.length_eq
  conv=>whnf
  repeat' (first|((first|with_reducible refine Ix.nat _ ?_|refine Ix.tn (by omega) ?_|refine Pc.sym ?_|refine LdAt.one (e:=i1) (v:=I) (fun _=>rfl) (fun _=>rfl) 0 rfl _ rfl (by omega) ?_|refine StAt.el (e:=i1) (n:=1) i1_len _ rfl rfl _ (Nat.mul_one _).symm (by first|omega|(simp only [List.length_set];omega)) ?_|(refine Drw.len 20 17 rfl rfl ?_;refine Drw.lateP tabOk [0,1,6,7,8,9,10,11,12,13,14,15,16] [2,3,4,5] [17,18,19] (by kernel_rfl) (by kernel_rfl) ?_)|refine Ob.mk (by omega) ?_|refine Ob.mk (by unfold W.I64 at *;omega) ?_);conv=>whnf)|((refine Br.d (fun h=>?_) (fun h=>?_))<;>conv=>whnf))
  ·refine CallS.srt (siftO _ r n c _ _ _ (by rw [List.length_set,List.length_set];omega) (by omega) (by omega) (by omega) (by omega) hc) rfl (fun _=>rfl) (fun _=>rfl) (fun x l' hx hp'=>?_)
   subst hx
   conv=>whnf
   repeat' ((refine Ob.mk (by unfold W.I64 at *;omega) ?_);conv=>whnf)
   refine⟨(q-1,l'),⟨?_,by dsimp only;omega⟩,by dsimp only;omega,(by (repeat refine And.intro (by first|rfl|exact congrArg (fun z=>some (AV.int .i64 z)) (by first|omega|(dsimp only;omega))) ?_);exact trivial),(by trivial),(by trivial)⟩
   exact hp'.trans ((swap_perm 0 (by omega) (by omega)).trans hp2)
  ·exact FinAt.asis (ars:=[]) [] RvL.nil (by simp) (by show 1≤_;simp) okAr ⟨rfl,l2,hp2,rfl⟩
def PivIs(x y:Int)(v:AV):Prop:=∃ (p:Int) (b:Bool),v=.tup [I p,.bool b]∧x≤p∧p<y
theorem partO(l:List Int)(r:List Value)(n c:Nat)(x y z:Int)(hn:l.length=n)(h0:0≤x)(hz:x≤z)(hz2:z<y)(hb:y≤n)(hc:n≤1000000) :
  SortC i1 1 233 n c l r [I x,I y,I z] (PivIs x y):=by
 obtain⟨a,rfl⟩:=Int.eq_ofNat_of_zero_le h0
 obtain⟨b,rfl⟩:=Int.eq_ofNat_of_zero_le (show 0≤y by omega)
 obtain⟨p,rfl⟩:=Int.eq_ofNat_of_zero_le (show 0≤z by omega)
 refine enterO tabOk (N:=168) (gs:=[_]) (args:=[_,_,_,_]) Tryz.func233 rfl rfl rfl (nLe rfl) (fun E hE=>?_)
 conv=>whnf
 repeat' ((first|with_reducible refine Ix.nat _ ?_|refine Pc.sym ?_|refine LdAt.one (e:=i1) (v:=I) (fun _=>rfl) (fun _=>rfl) 0 rfl _ rfl (by omega) ?_|refine StAt.el (e:=i1) (n:=1) i1_len _ rfl rfl _ (Nat.mul_one _).symm (by first|omega|(simp only [List.length_set];omega)) ?_|(refine Drw.len 16 13 rfl rfl ?_;refine Drw.lateP tabOk [0,1,4,5,6,7,8,9,10,11,12] [2,3] [13,14,15] (by kernel_rfl) (by kernel_rfl) ?_)|refine Ob.mk (by omega) ?_|refine Ob.mk (by unfold W.I64 at *;omega) ?_);conv=>whnf)
 refine LoopAt.rule tabOk [(0,_),(1,_),(11,_)] (fun (q:Nat×List Int)=>[(10,.int .i64 (q.1:Int))]) (fun (q:Nat×List Int)=>[.blk (ar i1 q.2 r)]) (fun (q:Nat×List Int)=>q.2.Perm l∧a+1≤q.1∧q.1≤b) (fun (q:Nat×List Int)=>b-q.1) (a+1,_) (by (repeat refine And.intro (by first|rfl|exact congrArg (fun z=>some (AV.int .i64 z)) (by first|omega|(dsimp only;omega))) ?_);exact trivial) ?_ (by (repeat refine And.intro (by first|rfl|exact congrArg (fun z=>some (AV.int .i64 z)) (by first|omega|(dsimp only;omega))) ?_);exact trivial) (by (repeat refine And.intro (by first|rfl|exact congrArg (fun z=>some (AV.int .i64 z)) (by first|omega|(dsimp only;omega))) ?_);exact trivial) (fun _=>⟨rfl,rfl,okAr,by simp [hE]⟩) (fun q hk=>?_)
 ·exact⟨swap_perm 0 (by omega) (by omega),by dsimp only;omega,by dsimp only;omega⟩
 obtain⟨i,l1⟩:=q
 obtain⟨hp,hi,hi2⟩:=hk
 dsimp only at hp hi hi2 ⊢
 have hl1:=hp.length_eq
 conv=>whnf
 repeat' (first|((first|with_reducible refine Ix.nat _ ?_|refine Pc.sym ?_|refine LdAt.one (e:=i1) (v:=I) (fun _=>rfl) (fun _=>rfl) 0 rfl _ rfl (by omega) ?_|refine Br.pt (by assumption) ?_|refine Br.pf (by assumption) ?_|refine Br.of rfl ?_|refine CallX.pu (less _ _) rfl rfl ?_|refine Ob.mk (by omega) ?_|refine Ob.mk (by unfold W.I64 at *;omega) ?_|refine Drw.loose (by kernel_rfl) ?_);conv=>whnf)|((refine Br.d (fun h=>?_) (fun h=>?_))<;>conv=>whnf))
 ·exact⟨(i+1,l1),⟨hp,by dsimp only;omega,by dsimp only;omega⟩,by dsimp only;omega,(by (repeat refine And.intro (by first|rfl|exact congrArg (fun z=>some (AV.int .i64 z)) (by first|omega|(dsimp only;omega))) ?_);exact trivial),(by trivial),(by trivial)⟩
 all_goals
  refine LoopAt.rule tabOk [(0,_),(1,_),(10,_)] (fun (q:Nat×List Int)=>[(11,.int .i64 (q.1:Int))]) (fun (q:Nat×List Int)=>[.blk (ar i1 q.2 r)]) (fun (q:Nat×List Int)=>q.2.Perm l∧a≤q.1∧q.1<b) (fun (q:Nat×List Int)=>q.1) (b-1,l1) (by (repeat refine And.intro (by first|rfl|exact congrArg (fun z=>some (AV.int .i64 z)) (by first|omega|(dsimp only;omega))) ?_);exact trivial) ⟨hp,by dsimp only;omega,by dsimp only;omega⟩ (by (repeat refine And.intro (by first|rfl|exact congrArg (fun z=>some (AV.int .i64 z)) (by first|omega|(dsimp only;omega))) ?_);exact trivial) (by (repeat refine And.intro (by first|rfl|exact congrArg (fun z=>some (AV.int .i64 z)) (by first|omega|(dsimp only;omega))) ?_);exact trivial) (fun _=>⟨rfl,rfl,okAr,by simp [hE]⟩) (fun q hk=>?_)
  obtain⟨j,l2⟩:=q
  obtain⟨hp2,hj,hj2⟩:=hk
  dsimp only at hp2 hj hj2 ⊢
  have hl2:=hp2.length_eq
  conv=>whnf
  repeat' (first|((first|with_reducible refine Ix.nat _ ?_|refine Pc.sym ?_|refine LdAt.one (e:=i1) (v:=I) (fun _=>rfl) (fun _=>rfl) 0 rfl _ rfl (by omega) ?_|refine StAt.el (e:=i1) (n:=1) i1_len _ rfl rfl _ (Nat.mul_one _).symm (by first|omega|(simp only [List.length_set];omega)) ?_|(refine Drw.len 16 13 rfl rfl ?_;refine Drw.lateP tabOk [0,1,4,5,6,7,8,9,10,11,12] [2,3] [13,14,15] (by kernel_rfl) (by kernel_rfl) ?_)|refine Br.pt (by assumption) ?_|refine Br.pf (by assumption) ?_|refine Br.pt (by omega) ?_|refine Br.pf (by omega) ?_|refine Br.of rfl ?_|refine CallX.pu (less _ _) rfl rfl ?_|refine Ob.mk (by omega) ?_|refine Ob.mk (by unfold W.I64 at *;omega) ?_|refine Drw.loose (by kernel_rfl) ?_);conv=>whnf)|((first|refine Br.d (fun h=>?_) (fun h=>?_)|refine Br.n (fun h=>?_) (fun h=>?_))<;>conv=>whnf))
  all_goals try exact Exists.intro (j-1,l2) ⟨⟨hp2,by dsimp only;omega,by dsimp only;omega⟩,by dsimp only;omega,(by (repeat refine And.intro (by first|rfl|exact congrArg (fun z=>some (AV.int .i64 z)) (by first|omega|(dsimp only;omega))) ?_);exact trivial),(by trivial),(by trivial)⟩
  all_goals try refine FinAt.asis (ars:=[I _,.bool true]) [] (RvL.pu rfl) (by simp) (by show 1≤_;simp) okAr ⟨⟨j,true,rfl,by omega,by omega⟩,_,(swap_perm 0 (by omega) (by omega)).trans hp2,rfl⟩
  all_goals
   refine LoopAt.rule tabOk [(0,_),(1,_)] (fun (q:Nat×Nat×List Int)=>[(10,.int .i64 (q.1:Int)),(11,.int .i64 (q.2.1:Int))]) (fun (q:Nat×Nat×List Int)=>[.blk (ar i1 q.2.2 r)]) (fun (q:Nat×Nat×List Int)=>q.2.2.Perm l∧a+1≤q.1∧q.1≤b∧a≤q.2.1∧q.2.1<b) (fun (q:Nat×Nat×List Int)=>q.2.1) (i+1,j-1,_) (by (repeat refine And.intro (by first|rfl|exact congrArg (fun z=>some (AV.int .i64 z)) (by first|omega|(dsimp only;omega))) ?_);exact trivial) ?_ (by (repeat refine And.intro (by first|rfl|exact congrArg (fun z=>some (AV.int .i64 z)) (by first|omega|(dsimp only;omega))) ?_);exact trivial) (by (repeat refine And.intro (by first|rfl|exact congrArg (fun z=>some (AV.int .i64 z)) (by first|omega|(dsimp only;omega))) ?_);exact trivial) (fun _=>⟨rfl,rfl,okAr,by simp [hE]⟩) (fun q hk=>?_)
   ·exact⟨(swap_perm 0 (by omega) (by omega)).trans hp2,by dsimp only;omega,by dsimp only;omega,by dsimp only;omega,by dsimp only;omega⟩
   obtain⟨i',j',l3⟩:=q
   obtain⟨hp3,hi',hi2',hj',hj2'⟩:=hk
   dsimp only at hp3 hi' hi2' hj' hj2' ⊢
   have hl3:=hp3.length_eq
   conv=>whnf
   refine LoopAt.rule tabOk [(0,_),(1,_),(11,_)] (fun (q:Nat×List Int)=>[(10,.int .i64 (q.1:Int))]) (fun (q:Nat×List Int)=>[.blk (ar i1 q.2 r)]) (fun (q:Nat×List Int)=>q.2.Perm l∧a+1≤q.1∧q.1≤b) (fun (q:Nat×List Int)=>b-q.1) (i',l3) (by (repeat refine And.intro (by first|rfl|exact congrArg (fun z=>some (AV.int .i64 z)) (by first|omega|(dsimp only;omega))) ?_);exact trivial) ⟨hp3,hi',hi2'⟩ (by (repeat refine And.intro (by first|rfl|exact congrArg (fun z=>some (AV.int .i64 z)) (by first|omega|(dsimp only;omega))) ?_);exact trivial) (by (repeat refine And.intro (by first|rfl|exact congrArg (fun z=>some (AV.int .i64 z)) (by first|omega|(dsimp only;omega))) ?_);exact trivial) (fun _=>⟨rfl,rfl,okAr,by simp [hE]⟩) (fun q hk=>?_)
   obtain⟨i2,l4⟩:=q
   obtain⟨hp4,hi3,hi4⟩:=hk
   dsimp only at hp4 hi3 hi4 ⊢
   have hl4:=hp4.length_eq
   conv=>whnf
   repeat' (first|((first|with_reducible refine Ix.nat _ ?_|refine Pc.sym ?_|refine LdAt.one (e:=i1) (v:=I) (fun _=>rfl) (fun _=>rfl) 0 rfl _ rfl (by omega) ?_|refine Br.pt (by assumption) ?_|refine Br.pf (by assumption) ?_|refine Br.of rfl ?_|refine CallX.pu (less _ _) rfl rfl ?_|refine Ob.mk (by omega) ?_|refine Ob.mk (by unfold W.I64 at *;omega) ?_|refine Drw.loose (by kernel_rfl) ?_);conv=>whnf)|((refine Br.d (fun h=>?_) (fun h=>?_))<;>conv=>whnf))
   ·exact⟨(i2+1,l4),⟨hp4,by dsimp only;omega,by dsimp only;omega⟩,by dsimp only;omega,(by (repeat refine And.intro (by first|rfl|exact congrArg (fun z=>some (AV.int .i64 z)) (by first|omega|(dsimp only;omega))) ?_);exact trivial),(by trivial),(by trivial)⟩
   all_goals
    refine LoopAt.rule tabOk [(0,_),(1,_),(10,_)] (fun (q:Nat×List Int)=>[(11,.int .i64 (q.1:Int))]) (fun (q:Nat×List Int)=>[.blk (ar i1 q.2 r)]) (fun (q:Nat×List Int)=>q.2.Perm l∧a≤q.1∧q.1≤j') (fun (q:Nat×List Int)=>q.1) (j',l4) (by (repeat refine And.intro (by first|rfl|exact congrArg (fun z=>some (AV.int .i64 z)) (by first|omega|(dsimp only;omega))) ?_);exact trivial) ⟨hp4,hj',Nat.le_refl _⟩ (by (repeat refine And.intro (by first|rfl|exact congrArg (fun z=>some (AV.int .i64 z)) (by first|omega|(dsimp only;omega))) ?_);exact trivial) (by (repeat refine And.intro (by first|rfl|exact congrArg (fun z=>some (AV.int .i64 z)) (by first|omega|(dsimp only;omega))) ?_);exact trivial) (fun _=>⟨rfl,rfl,okAr,by simp [hE]⟩) (fun q hk=>?_)
    obtain⟨j2,l5⟩:=q
    obtain⟨hp5,hj3,hj4⟩:=hk
    dsimp only at hp5 hj3 hj4 ⊢
    have hl5:=hp5.length_eq
    conv=>whnf
    repeat' (first|((first|with_reducible refine Ix.nat _ ?_|refine Pc.sym ?_|refine LdAt.one (e:=i1) (v:=I) (fun _=>rfl) (fun _=>rfl) 0 rfl _ rfl (by omega) ?_|refine StAt.el (e:=i1) (n:=1) i1_len _ rfl rfl _ (Nat.mul_one _).symm (by first|omega|(simp only [List.length_set];omega)) ?_|(refine Drw.len 16 13 rfl rfl ?_;refine Drw.lateP tabOk [0,1,4,5,6,7,8,9,10,11,12] [2,3] [13,14,15] (by kernel_rfl) (by kernel_rfl) ?_)|refine Br.pt (by assumption) ?_|refine Br.pf (by assumption) ?_|refine Br.pt (by omega) ?_|refine Br.pf (by omega) ?_|refine Br.of rfl ?_|refine CallX.pu (less _ _) rfl rfl ?_|refine Ob.mk (by omega) ?_|refine Ob.mk (by unfold W.I64 at *;omega) ?_|refine Drw.loose (by kernel_rfl) ?_);conv=>whnf)|((first|refine Br.d (fun h=>?_) (fun h=>?_)|refine Br.n (fun h=>?_) (fun h=>?_))<;>conv=>whnf))
    all_goals try exact Exists.intro (j2-1,l5) ⟨⟨hp5,by dsimp only;omega,by dsimp only;omega⟩,by dsimp only;omega,(by (repeat refine And.intro (by first|rfl|exact congrArg (fun z=>some (AV.int .i64 z)) (by first|omega|(dsimp only;omega))) ?_);exact trivial),(by trivial),(by trivial)⟩
    all_goals try refine FinAt.asis (ars:=[I _,.bool false]) [] (RvL.pu rfl) (by simp) (by show 1≤_;simp) okAr ⟨⟨j2,false,rfl,by omega,by omega⟩,_,(swap_perm 0 (by omega) (by omega)).trans hp5,rfl⟩
    all_goals
     refine⟨(i2+1,j2-1,_),⟨?_,by dsimp only;omega,by dsimp only;omega,by dsimp only;omega,by dsimp only;omega⟩,by dsimp only;omega,(by (repeat refine And.intro (by first|rfl|exact congrArg (fun z=>some (AV.int .i64 z)) (by first|omega|(dsimp only;omega))) ?_);exact trivial),(by trivial),(by trivial)⟩
     exact(swap_perm 0 (by omega) (by omega)).trans hp5
theorem partEqO(l:List Int)(r:List Value)(n c:Nat)(x y z:Int)(hn:l.length=n)(h0:0≤x)(hz:x≤z)(hz2:z<y)(hb:y≤n)(hc:n≤1000000) :
  SortC i1 1 232 n c l r [I x,I y,I z] (fun v=>∃ p,v=I p∧x<p∧p≤y):=by
 obtain⟨a,rfl⟩:=Int.eq_ofNat_of_zero_le h0
 obtain⟨b,rfl⟩:=Int.eq_ofNat_of_zero_le (show 0≤y by omega)
 obtain⟨p,rfl⟩:=Int.eq_ofNat_of_zero_le (show 0≤z by omega)
 refine enterO tabOk (N:=84) (gs:=[_]) (args:=[_,_,_,_]) Tryz.func232 rfl rfl rfl (nLe rfl) (fun E hE=>?_)
 conv=>whnf
 repeat' ((first|with_reducible refine Ix.nat _ ?_|refine Pc.sym ?_|refine LdAt.one (e:=i1) (v:=I) (fun _=>rfl) (fun _=>rfl) 0 rfl _ rfl (by omega) ?_|refine StAt.el (e:=i1) (n:=1) i1_len _ rfl rfl _ (Nat.mul_one _).symm (by first|omega|(simp only [List.length_set];omega)) ?_|(refine Drw.len 16 13 rfl rfl ?_;refine Drw.lateP tabOk [0,1,4,5,6,7,8,9,10,11,12] [2,3] [13,14,15] (by kernel_rfl) (by kernel_rfl) ?_)|refine Ob.mk (by omega) ?_|refine Ob.mk (by unfold W.I64 at *;omega) ?_);conv=>whnf)
 refine LoopAt.rule tabOk [(0,_),(1,_)] (fun (q:Nat×Nat×List Int)=>[(9,.int .i64 (q.1:Int)),(10,.int .i64 (q.2.1:Int))]) (fun (q:Nat×Nat×List Int)=>[.blk (ar i1 q.2.2 r)]) (fun (q:Nat×Nat×List Int)=>q.2.2.Perm l∧a+1≤q.1∧q.1≤b∧a≤q.2.1∧q.2.1<b) (fun (q:Nat×Nat×List Int)=>q.2.1) (a+1,b-1,_) (by (repeat refine And.intro (by first|rfl|exact congrArg (fun z=>some (AV.int .i64 z)) (by first|omega|(dsimp only;omega))) ?_);exact trivial) ?_ (by (repeat refine And.intro (by first|rfl|exact congrArg (fun z=>some (AV.int .i64 z)) (by first|omega|(dsimp only;omega))) ?_);exact trivial) (by (repeat refine And.intro (by first|rfl|exact congrArg (fun z=>some (AV.int .i64 z)) (by first|omega|(dsimp only;omega))) ?_);exact trivial) (fun _=>⟨rfl,rfl,okAr,by simp [hE]⟩) (fun q hk=>?_)
 ·exact⟨swap_perm 0 (by omega) (by omega),by dsimp only;omega,by dsimp only;omega,by dsimp only;omega,by dsimp only;omega⟩
 obtain⟨i',j',l3⟩:=q
 obtain⟨hp3,hi',hi2',hj',hj2'⟩:=hk
 dsimp only at hp3 hi' hi2' hj' hj2' ⊢
 have hl3:=hp3.length_eq
 conv=>whnf
 refine LoopAt.rule tabOk [(0,_),(1,_),(10,_)] (fun (q:Nat×List Int)=>[(9,.int .i64 (q.1:Int))]) (fun (q:Nat×List Int)=>[.blk (ar i1 q.2 r)]) (fun (q:Nat×List Int)=>q.2.Perm l∧a+1≤q.1∧q.1≤b) (fun (q:Nat×List Int)=>b-q.1) (i',l3) (by (repeat refine And.intro (by first|rfl|exact congrArg (fun z=>some (AV.int .i64 z)) (by first|omega|(dsimp only;omega))) ?_);exact trivial) ⟨hp3,hi',hi2'⟩ (by (repeat refine And.intro (by first|rfl|exact congrArg (fun z=>some (AV.int .i64 z)) (by first|omega|(dsimp only;omega))) ?_);exact trivial) (by (repeat refine And.intro (by first|rfl|exact congrArg (fun z=>some (AV.int .i64 z)) (by first|omega|(dsimp only;omega))) ?_);exact trivial) (fun _=>⟨rfl,rfl,okAr,by simp [hE]⟩) (fun q hk=>?_)
 obtain⟨i2,l4⟩:=q
 obtain⟨hp4,hi3,hi4⟩:=hk
 dsimp only at hp4 hi3 hi4 ⊢
 have hl4:=hp4.length_eq
 conv=>whnf
 repeat' (first|((first|with_reducible refine Ix.nat _ ?_|refine Pc.sym ?_|refine LdAt.one (e:=i1) (v:=I) (fun _=>rfl) (fun _=>rfl) 0 rfl _ rfl (by omega) ?_|refine Br.pt (by assumption) ?_|refine Br.pf (by assumption) ?_|refine Br.of rfl ?_|refine CallX.pu (less _ _) rfl rfl ?_|refine Ob.mk (by omega) ?_|refine Ob.mk (by unfold W.I64 at *;omega) ?_|refine Drw.loose (by kernel_rfl) ?_);conv=>whnf)|((first|refine Br.d (fun h=>?_) (fun h=>?_)|refine Br.n (fun h=>?_) (fun h=>?_))<;>conv=>whnf))
 all_goals try exact Exists.intro (i2+1,l4) ⟨⟨hp4,by dsimp only;omega,by dsimp only;omega⟩,by dsimp only;omega,(by (repeat refine And.intro (by first|rfl|exact congrArg (fun z=>some (AV.int .i64 z)) (by first|omega|(dsimp only;omega))) ?_);exact trivial),(by trivial),(by trivial)⟩
 all_goals
  refine LoopAt.rule tabOk [(0,_),(1,_),(9,_)] (fun (q:Nat×List Int)=>[(10,.int .i64 (q.1:Int))]) (fun (q:Nat×List Int)=>[.blk (ar i1 q.2 r)]) (fun (q:Nat×List Int)=>q.2.Perm l∧a≤q.1∧q.1≤j') (fun (q:Nat×List Int)=>q.1) (j',l4) (by (repeat refine And.intro (by first|rfl|exact congrArg (fun z=>some (AV.int .i64 z)) (by first|omega|(dsimp only;omega))) ?_);exact trivial) ⟨hp4,hj',Nat.le_refl _⟩ (by (repeat refine And.intro (by first|rfl|exact congrArg (fun z=>some (AV.int .i64 z)) (by first|omega|(dsimp only;omega))) ?_);exact trivial) (by (repeat refine And.intro (by first|rfl|exact congrArg (fun z=>some (AV.int .i64 z)) (by first|omega|(dsimp only;omega))) ?_);exact trivial) (fun _=>⟨rfl,rfl,okAr,by simp [hE]⟩) (fun q hk=>?_)
  obtain⟨j2,l5⟩:=q
  obtain⟨hp5,hj3,hj4⟩:=hk
  dsimp only at hp5 hj3 hj4 ⊢
  have hl5:=hp5.length_eq
  conv=>whnf
  repeat' (first|((first|with_reducible refine Ix.nat _ ?_|refine Pc.sym ?_|refine LdAt.one (e:=i1) (v:=I) (fun _=>rfl) (fun _=>rfl) 0 rfl _ rfl (by omega) ?_|refine StAt.el (e:=i1) (n:=1) i1_len _ rfl rfl _ (Nat.mul_one _).symm (by first|omega|(simp only [List.length_set];omega)) ?_|(refine Drw.len 16 13 rfl rfl ?_;refine Drw.lateP tabOk [0,1,4,5,6,7,8,9,10,11,12] [2,3] [13,14,15] (by kernel_rfl) (by kernel_rfl) ?_)|refine Br.pt (by assumption) ?_|refine Br.pf (by assumption) ?_|refine Br.pt (by omega) ?_|refine Br.pf (by omega) ?_|refine Br.of rfl ?_|refine CallX.pu (less _ _) rfl rfl ?_|refine Ob.mk (by omega) ?_|refine Ob.mk (by unfold W.I64 at *;omega) ?_|refine Drw.loose (by kernel_rfl) ?_);conv=>whnf)|((refine Br.d (fun h=>?_) (fun h=>?_))<;>conv=>whnf))
  all_goals try exact Exists.intro (j2-1,l5) ⟨⟨hp5,by dsimp only;omega,by dsimp only;omega⟩,by dsimp only;omega,(by (repeat refine And.intro (by first|rfl|exact congrArg (fun z=>some (AV.int .i64 z)) (by first|omega|(dsimp only;omega))) ?_);exact trivial),(by trivial),(by trivial)⟩
  all_goals try refine FinAt.asis (ars:=[I _]) [] (RvL.pu rfl) (by simp) (by show 1≤_;simp) okAr ⟨⟨i2,rfl,by omega,by omega⟩,_,hp5,rfl⟩
  all_goals
   refine⟨(i2+1,j2-1,_),⟨?_,by dsimp only;omega,by dsimp only;omega,by dsimp only;omega,by dsimp only;omega⟩,by dsimp only;omega,(by (repeat refine And.intro (by first|rfl|exact congrArg (fun z=>some (AV.int .i64 z)) (by first|omega|(dsimp only;omega))) ?_);exact trivial),(by trivial),(by trivial)⟩
   exact(swap_perm 0 (by omega) (by omega)).trans hp5
theorem partInsO(l:List Int)(r:List Value)(n c:Nat)(x y:Int)(hn:l.length=n)(h0:0≤x)(hz:x<y)(hb:y≤n)(hc:n≤1000000) :
  SortC i1 1 230 n c l r [I x,I y] (fun v=>∃ p,v=.bool p):=by
 obtain⟨a,rfl⟩:=Int.eq_ofNat_of_zero_le h0
 obtain⟨b,rfl⟩:=Int.eq_ofNat_of_zero_le (show 0≤y by omega)
 refine enterO tabOk (N:=133) (gs:=[_]) (args:=[_,_,_]) Tryz.func230 rfl rfl rfl (nLe rfl) (fun E hE=>?_)
 conv=>whnf
 repeat' ((refine Ob.mk (by unfold W.I64 at *;omega) ?_);conv=>whnf)
 refine LoopAt.rule tabOk [(0,_),(1,_),(2,_)] (fun (q:Nat×Nat×List Int)=>[(7,.int .i64 (q.1:Int)),(8,.int .i64 (q.2.1:Int))]) (fun (q:Nat×Nat×List Int)=>[.blk (ar i1 q.2.2 r)]) (fun (q:Nat×Nat×List Int)=>q.2.2.Perm l∧a+1≤q.1∧q.1≤b∧q.2.1≤5) (fun (q:Nat×Nat×List Int)=>5-q.2.1) (a+1,0,l) (by (repeat refine And.intro (by first|rfl|exact congrArg (fun z=>some (AV.int .i64 z)) (by first|omega|(dsimp only;omega))) ?_);exact trivial) ⟨.refl _,by dsimp only;omega,by dsimp only;omega,by dsimp only;omega⟩ (by (repeat refine And.intro (by first|rfl|exact congrArg (fun z=>some (AV.int .i64 z)) (by first|omega|(dsimp only;omega))) ?_);exact trivial) (by (repeat refine And.intro (by first|rfl|exact congrArg (fun z=>some (AV.int .i64 z)) (by first|omega|(dsimp only;omega))) ?_);exact trivial) (fun _=>⟨rfl,rfl,okAr,by simp [hE]⟩) (fun q hk=>?_)
 obtain⟨i',j',l3⟩:=q
 obtain⟨hp3,hi',hi2',hj'⟩:=hk
 dsimp only at hp3 hi' hi2' hj' ⊢
 have hl3:=hp3.length_eq
 conv=>whnf
 repeat' ((refine Br.d (fun h=>?_) (fun h=>?_))<;>conv=>whnf)
 all_goals try refine FinAt.asis (ars:=[.bool _]) [] (RvL.pu rfl) (by simp) (by show 1≤_;simp) okAr ⟨⟨_,rfl⟩,_,hp3,rfl⟩
 refine LoopAt.rule tabOk [(0,_),(1,_),(2,_),(8,_)] (fun (q:Nat×List Int)=>[(7,.int .i64 (q.1:Int))]) (fun (q:Nat×List Int)=>[.blk (ar i1 q.2 r)]) (fun (q:Nat×List Int)=>q.2.Perm l∧a+1≤q.1∧q.1≤b) (fun (q:Nat×List Int)=>b-q.1) (i',l3) (by (repeat refine And.intro (by first|rfl|exact congrArg (fun z=>some (AV.int .i64 z)) (by first|omega|(dsimp only;omega))) ?_);exact trivial) ⟨hp3,hi',hi2'⟩ (by (repeat refine And.intro (by first|rfl|exact congrArg (fun z=>some (AV.int .i64 z)) (by first|omega|(dsimp only;omega))) ?_);exact trivial) (by (repeat refine And.intro (by first|rfl|exact congrArg (fun z=>some (AV.int .i64 z)) (by first|omega|(dsimp only;omega))) ?_);exact trivial) (fun _=>⟨rfl,rfl,okAr,by simp [hE]⟩) (fun q hk=>?_)
 obtain⟨i2,l4⟩:=q
 obtain⟨hp4,hi3,hi4⟩:=hk
 dsimp only at hp4 hi3 hi4 ⊢
 have hl4:=hp4.length_eq
 conv=>whnf
 repeat' (first|((first|with_reducible refine Ix.nat _ ?_|refine Ix.tn (by omega) ?_|refine Pc.sym ?_|refine LdAt.one (e:=i1) (v:=I) (fun _=>rfl) (fun _=>rfl) 0 rfl _ rfl (by omega) ?_|refine StAt.el (e:=i1) (n:=1) i1_len _ rfl rfl _ (Nat.mul_one _).symm (by first|omega|(simp only [List.length_set];omega)) ?_|(refine Drw.len 18 15 rfl rfl ?_;refine Drw.lateP tabOk [0,1,5,6,7,8,9,10,11,12,13,14] [2,3,4] [15,16,17] (by kernel_rfl) (by kernel_rfl) ?_)|refine Br.pt (by assumption) ?_|refine Br.pf (by assumption) ?_|refine Br.pt (by omega) ?_|refine Br.pf (by omega) ?_|refine Br.of rfl ?_|refine CallX.pu (less _ _) rfl rfl ?_|refine Ob.mk (by omega) ?_|refine Ob.mk (by unfold W.I64 at *;omega) ?_|refine Drw.loose (by kernel_rfl) ?_);conv=>whnf)|((first|refine Br.d (fun h=>?_) (fun h=>?_)|refine Br.n (fun h=>?_) (fun h=>?_))<;>conv=>whnf))
 all_goals try exact Exists.intro (i2+1,l4) ⟨⟨hp4,by dsimp only;omega,by dsimp only;omega⟩,by dsimp only;omega,(by (repeat refine And.intro (by first|rfl|exact congrArg (fun z=>some (AV.int .i64 z)) (by first|omega|(dsimp only;omega))) ?_);exact trivial),(by trivial),(by trivial)⟩
 all_goals try refine FinAt.asis (ars:=[.bool _]) [] (RvL.pu rfl) (by simp) (by show 1≤_;simp) okAr ⟨⟨_,rfl⟩,_,hp4,rfl⟩
 ·refine LoopAt.rule tabOk [(0,_),(1,_),(2,_),(7,_),(8,_)] (fun (q:Nat×List Int)=>[(9,.int .i64 (q.1:Int))]) (fun (q:Nat×List Int)=>[.blk (ar i1 q.2 r)]) (fun (q:Nat×List Int)=>q.2.Perm l∧q.1<i2) (fun (q:Nat×List Int)=>q.1) (i2-1,_) (by (repeat refine And.intro (by first|rfl|exact congrArg (fun z=>some (AV.int .i64 z)) (by first|omega|(dsimp only;omega))) ?_);exact trivial) ?_ (by (repeat refine And.intro (by first|rfl|exact congrArg (fun z=>some (AV.int .i64 z)) (by first|omega|(dsimp only;omega))) ?_);exact trivial) (by (repeat refine And.intro (by first|rfl|exact congrArg (fun z=>some (AV.int .i64 z)) (by first|omega|(dsimp only;omega))) ?_);exact trivial) (fun _=>⟨rfl,rfl,okAr,by simp [hE]⟩) (fun q hk=>?_)
  ·exact⟨(swap_perm 0 (by omega) (by omega)).trans hp4,by dsimp only;omega⟩
  obtain⟨j1,l5⟩:=q
  obtain⟨hp5,hj1⟩:=hk
  dsimp only at hp5 hj1 ⊢
  have hl5:=hp5.length_eq
  conv=>whnf
  repeat' (first|((first|with_reducible refine Ix.nat _ ?_|refine Ix.tn (by omega) ?_|refine Pc.sym ?_|refine LdAt.one (e:=i1) (v:=I) (fun _=>rfl) (fun _=>rfl) 0 rfl _ rfl (by omega) ?_|refine StAt.el (e:=i1) (n:=1) i1_len _ rfl rfl _ (Nat.mul_one _).symm (by first|omega|(simp only [List.length_set];omega)) ?_|(refine Drw.len 18 15 rfl rfl ?_;refine Drw.lateP tabOk [0,1,5,6,7,8,9,10,11,12,13,14] [2,3,4] [15,16,17] (by kernel_rfl) (by kernel_rfl) ?_)|refine CallX.pu (less _ _) rfl rfl ?_|refine Ob.mk (by omega) ?_|refine Ob.mk (by unfold W.I64 at *;omega) ?_|refine Drw.loose (by kernel_rfl) ?_);conv=>whnf)|((first|refine Br.d (fun h=>?_) (fun h=>?_)|refine Br.n (fun h=>?_) (fun h=>?_))<;>conv=>whnf))
  all_goals try
   refine Exists.intro (j1-1,_) ⟨⟨?_,by dsimp only;omega⟩,by dsimp only;omega,(by (repeat refine And.intro (by first|rfl|exact congrArg (fun z=>some (AV.int .i64 z)) (by first|omega|(dsimp only;omega))) ?_);exact trivial),(by trivial),(by trivial)⟩
   exact(swap_perm 0 (by omega) (by omega)).trans hp5
  all_goals try exact Exists.intro (i2,j'+1,l5) ⟨⟨hp5,by dsimp only;omega,by dsimp only;omega,by dsimp only;omega⟩,by dsimp only;omega,(by (repeat refine And.intro (by first|rfl|exact congrArg (fun z=>some (AV.int .i64 z)) (by first|omega|(dsimp only;omega))) ?_);exact trivial),(by trivial),(by trivial)⟩
  all_goals
   refine LoopAt.rule tabOk [(0,_),(1,_),(2,_),(7,_),(8,_)] (fun (q:Nat×List Int)=>[(10,.int .i64 (q.1:Int))]) (fun (q:Nat×List Int)=>[.blk (ar i1 q.2 r)]) (fun (q:Nat×List Int)=>q.2.Perm l∧i2+1≤q.1∧q.1≤b) (fun (q:Nat×List Int)=>b-q.1) (i2+1,_) (by (repeat refine And.intro (by first|rfl|exact congrArg (fun z=>some (AV.int .i64 z)) (by first|omega|(dsimp only;omega))) ?_);exact trivial) ?_ (by (repeat refine And.intro (by first|rfl|exact congrArg (fun z=>some (AV.int .i64 z)) (by first|omega|(dsimp only;omega))) ?_);exact trivial) (by (repeat refine And.intro (by first|rfl|exact congrArg (fun z=>some (AV.int .i64 z)) (by first|omega|(dsimp only;omega))) ?_);exact trivial) (fun _=>⟨rfl,rfl,okAr,by simp [hE]⟩) (fun q hk=>?_)
   ·exact⟨hp5,by dsimp only;omega,by dsimp only;omega⟩
   obtain⟨j2,l6⟩:=q
   obtain⟨hp6,hj3,hj4⟩:=hk
   dsimp only at hp6 hj3 hj4 ⊢
   have hl6:=hp6.length_eq
   conv=>whnf
   repeat' (first|((first|with_reducible refine Ix.nat _ ?_|refine Ix.tn (by omega) ?_|refine Pc.sym ?_|refine LdAt.one (e:=i1) (v:=I) (fun _=>rfl) (fun _=>rfl) 0 rfl _ rfl (by omega) ?_|refine StAt.el (e:=i1) (n:=1) i1_len _ rfl rfl _ (Nat.mul_one _).symm (by first|omega|(simp only [List.length_set];omega)) ?_|(refine Drw.len 18 15 rfl rfl ?_;refine Drw.lateP tabOk [0,1,5,6,7,8,9,10,11,12,13,14] [2,3,4] [15,16,17] (by kernel_rfl) (by kernel_rfl) ?_)|refine CallX.pu (less _ _) rfl rfl ?_|refine Ob.mk (by omega) ?_|refine Ob.mk (by unfold W.I64 at *;omega) ?_|refine Drw.loose (by kernel_rfl) ?_);conv=>whnf)|((first|refine Br.d (fun h=>?_) (fun h=>?_)|refine Br.n (fun h=>?_) (fun h=>?_))<;>conv=>whnf))
   all_goals try
    refine Exists.intro (j2+1,_) ⟨⟨?_,by dsimp only;omega,by dsimp only;omega⟩,by dsimp only;omega,(by (repeat refine And.intro (by first|rfl|exact congrArg (fun z=>some (AV.int .i64 z)) (by first|omega|(dsimp only;omega))) ?_);exact trivial),(by trivial),(by trivial)⟩
    exact(swap_perm 0 (by omega) (by omega)).trans hp6
   all_goals exact Exists.intro (i2,j'+1,l6) ⟨⟨hp6,by dsimp only;omega,by dsimp only;omega,by dsimp only;omega⟩,by dsimp only;omega,(by (repeat refine And.intro (by first|rfl|exact congrArg (fun z=>some (AV.int .i64 z)) (by first|omega|(dsimp only;omega))) ?_);exact trivial),(by trivial),(by trivial)⟩
 ·refine LoopAt.rule tabOk [(0,_),(1,_),(2,_),(7,_),(8,_)] (fun (q:Nat×List Int)=>[(10,.int .i64 (q.1:Int))]) (fun (q:Nat×List Int)=>[.blk (ar i1 q.2 r)]) (fun (q:Nat×List Int)=>q.2.Perm l∧i2+1≤q.1∧q.1≤b) (fun (q:Nat×List Int)=>b-q.1) (i2+1,_) (by (repeat refine And.intro (by first|rfl|exact congrArg (fun z=>some (AV.int .i64 z)) (by first|omega|(dsimp only;omega))) ?_);exact trivial) ?_ (by (repeat refine And.intro (by first|rfl|exact congrArg (fun z=>some (AV.int .i64 z)) (by first|omega|(dsimp only;omega))) ?_);exact trivial) (by (repeat refine And.intro (by first|rfl|exact congrArg (fun z=>some (AV.int .i64 z)) (by first|omega|(dsimp only;omega))) ?_);exact trivial) (fun _=>⟨rfl,rfl,okAr,by simp [hE]⟩) (fun q hk=>?_)
  ·exact⟨(swap_perm 0 (by omega) (by omega)).trans hp4,by dsimp only;omega,by dsimp only;omega⟩
  obtain⟨j2,l6⟩:=q
  obtain⟨hp6,hj3,hj4⟩:=hk
  dsimp only at hp6 hj3 hj4 ⊢
  have hl6:=hp6.length_eq
  conv=>whnf
  repeat' (first|((first|with_reducible refine Ix.nat _ ?_|refine Ix.tn (by omega) ?_|refine Pc.sym ?_|refine LdAt.one (e:=i1) (v:=I) (fun _=>rfl) (fun _=>rfl) 0 rfl _ rfl (by omega) ?_|refine StAt.el (e:=i1) (n:=1) i1_len _ rfl rfl _ (Nat.mul_one _).symm (by first|omega|(simp only [List.length_set];omega)) ?_|(refine Drw.len 18 15 rfl rfl ?_;refine Drw.lateP tabOk [0,1,5,6,7,8,9,10,11,12,13,14] [2,3,4] [15,16,17] (by kernel_rfl) (by kernel_rfl) ?_)|refine CallX.pu (less _ _) rfl rfl ?_|refine Ob.mk (by omega) ?_|refine Ob.mk (by unfold W.I64 at *;omega) ?_|refine Drw.loose (by kernel_rfl) ?_);conv=>whnf)|((first|refine Br.d (fun h=>?_) (fun h=>?_)|refine Br.n (fun h=>?_) (fun h=>?_))<;>conv=>whnf))
  all_goals try
   refine Exists.intro (j2+1,_) ⟨⟨?_,by dsimp only;omega,by dsimp only;omega⟩,by dsimp only;omega,(by (repeat refine And.intro (by first|rfl|exact congrArg (fun z=>some (AV.int .i64 z)) (by first|omega|(dsimp only;omega))) ?_);exact trivial),(by trivial),(by trivial)⟩
   exact(swap_perm 0 (by omega) (by omega)).trans hp6
  all_goals exact Exists.intro (i2,j'+1,l6) ⟨⟨hp6,by dsimp only;omega,by dsimp only;omega,by dsimp only;omega⟩,by dsimp only;omega,(by (repeat refine And.intro (by first|rfl|exact congrArg (fun z=>some (AV.int .i64 z)) (by first|omega|(dsimp only;omega))) ?_);exact trivial),(by trivial),(by trivial)⟩
section
variable{P:Program}{o:Oper}{tm:Tm}{own:Ow}{K:AV→Prop}
theorem wrap_u64_id{x:Int}(h:0≤x)(h2:x<18446744073709551616):IntKind.u64.wrap x=x:=by
 simp only [IntKind.wrap,IntKind.bits,IntKind.signed]
 simp
 omega
theorem QAt.shrU{t t':TypeId}{x y:Operand}{k:IntKind}{p q:Int}(ho:o.op=.binOp .shr t x y t')(hx:ev tm x fun v=>v=.int .u64 p)(hy:ev tm y fun v=>v=.int k q)(h0:0≤p)(h1:p<18446744073709551616)(hq:0≤q)(hK:∀ r:Int,0≤r→r<18446744073709551616→K (.int .u64 r)):QAt P o tm own K:=by
 have hp:(0:Int)≤2 ^ (min q.toNat IntKind.u64.bits):=Int.pow_nonneg (by omega)
 have h2:p.fdiv (2 ^ (min q.toNat IntKind.u64.bits))=p/(2 ^ (min q.toNat IntKind.u64.bits)):=Int.fdiv_eq_ediv_of_nonneg _ hp
 have h3:0≤p/(2 ^ (min q.toNat IntKind.u64.bits)):=Int.ediv_nonneg h0 hp
 have h4:p/(2 ^ (min q.toNat IntKind.u64.bits))≤p:=Int.ediv_le_self _ h0
 refine QAt.bin ho hx hy rfl rfl (r:=.int .u64 (p.fdiv (2 ^ (min q.toNat IntKind.u64.bits)))) rfl (fun w=>?_) (hK _ (by omega) (by omega))
 simp only [val]
 rw [Sem.run_bind,guard_int]
 have hq':¬ q<0:=by omega
 simp [Go.binOp,Op.shift,hq']
theorem QAt.xorU{t t':TypeId}{x y:Operand}{p q:Int}(ho:o.op=.binOp .xor t x y t')(hx:ev tm x fun v=>v=.int .u64 p)(hy:ev tm y fun v=>v=.int .u64 q)(hK:∀ r:Int,0≤r→r<18446744073709551616→K (.int .u64 r)):QAt P o tm own K:=by
 have h:=wrap_u64 (((BitVec.ofInt 64 p ^^^ BitVec.ofInt 64 q:BitVec 64).toNat:Nat):Int)
 refine QAt.bin ho hx hy rfl rfl (r:=.int .u64 (IntKind.u64.wrap (((BitVec.ofInt 64 p ^^^ BitVec.ofInt 64 q:BitVec 64).toNat:Nat):Int))) rfl (fun w=>?_) (hK _ h.1 h.2)
 simp only [val]
 rw [Sem.run_bind,guard_int]
 rfl
theorem QAt.andU{t t':TypeId}{x y:Operand}{p q:Int}(ho:o.op=.binOp .and t x y t')(hx:ev tm x fun v=>v=.int .u64 p)(hy:ev tm y fun v=>v=.int .u64 q)(h0:0≤q)(h1:q<18446744073709551616)(hK:∀ r:Int,0≤r→r≤q→K (.int .u64 r)):QAt P o tm own K:=by
 have hb:(BitVec.ofInt 64 q).toNat=q.toNat:=by
  rw [BitVec.toNat_ofInt]
  omega
 have h2:((BitVec.ofInt 64 p &&& BitVec.ofInt 64 q:BitVec 64).toNat:Int)≤q:=by
  rw [BitVec.toNat_and,hb]
  have:=Nat.and_le_right (n:=(BitVec.ofInt 64 p).toNat) (m:=q.toNat)
  omega
 refine QAt.bin ho hx hy rfl rfl (r:=.int .u64 (IntKind.u64.wrap (((BitVec.ofInt 64 p &&& BitVec.ofInt 64 q:BitVec 64).toNat:Nat):Int))) rfl (fun w=>?_) ?_
 ·simp only [val]
  rw [Sem.run_bind,guard_int]
  rfl
 ·rw [wrap_u64_id (by omega) (by omega)]
  exact hK _ (by omega) h2
theorem QAt.shl1{t t':TypeId}{x y:Operand}{q:Int}(ho:o.op=.binOp .shl t x y t')(hx:ev tm x fun v=>v=.int .u64 1)(hy:ev tm y fun v=>v=.int .i64 q)(hq:0≤q)(hq2:q≤60)(hK:K (.int .u64 ((2 ^ q.toNat:Nat):Int))):QAt P o tm own K:=by
 have hp:2 ^ q.toNat≤2 ^ 60:=Nat.pow_le_pow_right (by omega) (by omega)
 have hp0:0<2 ^ q.toNat:=Nat.two_pow_pos _
 have hm:min q.toNat IntKind.u64.bits=q.toNat:=Nat.min_eq_left (by show q.toNat≤64;omega)
 refine QAt.bin ho hx hy rfl rfl (r:=.int .u64 ((2 ^ q.toNat:Nat):Int)) rfl (fun w=>?_) hK
 simp only [val]
 rw [Sem.run_bind,guard_int]
 have hq':¬ q<0:=by omega
 simp only [Go.binOp,Op.shift,hq',if_false]
 rw [hm,Int.one_mul]
 have e:((2:Int) ^ q.toNat)=((2 ^ q.toNat:Nat):Int):=by rw [Int.natCast_pow];rfl
 rw [e,wrap_u64_id (by omega) (by have:(2:Nat) ^ 60=1152921504606846976:=(by decide);omega)]
 rfl
def tabB(s:ByteArray):Bool:=Nat.beq s.data.toList.length 256&&(List.range 256).all fun j=>match nth s.data.toList j with
 |some u=>Nat.ble u.toNat 8&&(Nat.beq j 0||Nat.ble (2 ^ u.toNat) (2*j))
 |none=>false
theorem QAt.tab8{t:TypeId}{s:ByteArray}{ix:Operand}{k:IntKind}{j:Int}(ho:o.op=.index t (.const (.string s)) ix)(ht:P.underlying t=some .string)(hx:ev tm ix fun v=>v=.int k j)(h0:0≤j)(h1:j<256)(hB:tabB s=true)(hK:∀ u:Int,0≤u→u≤8→(0<j→((2 ^ u.toNat:Nat):Int)≤2*j)→K (.int .u8 u)):QAt P o tm own K:=by
 unfold tabB at hB
 rw [Bool.and_eq_true] at hB
 have hB2:=List.all_eq_true.1 hB.2 j.toNat (List.mem_range.2 (by omega))
 cases hu:nth s.data.toList j.toNat with
 |none=>rw [hu] at hB2;cases hB2
 |some u =>
  rw [hu] at hB2
  simp only [Bool.and_eq_true,Bool.or_eq_true] at hB2
  have h3:=nLe hB2.1
  refine⟨.int .u8 (u.toNat:Int),hK _ (by omega) (by omega) (fun hj=>?_),fun N E S ids a n hs=>⟨_,rfl,fun w hp=>?_⟩⟩
  ·rcases hB2.2 with h|h
   ·have:=Nat.eq_of_beq_eq_true h;omega
   ·have:=nLe h
    rw [Int.toNat_natCast]
    omega
  ·obtain⟨v,rfl,h2⟩:=ev_sound hx
   have e:=(h2 S n ids a hs.sl).int
   have hg:s[j.toNat]?=some u:=by
    rw [nth_eq] at hu
    have hlt:j.toNat<s.data.size:=by simpa using (List.getElem?_eq_some_iff.1 hu).1
    have:s[j.toNat]?=some (s.data[j.toNat]):=by
     rw [getElem?_pos s j.toNat hlt];rfl
    rw [this]
    congr 1
    have:=(List.getElem?_eq_some_iff.1 hu).2
    simpa using this
   unfold execOp
   simp only [ho,e]
   simp [Act.eval,Instr.index,asIntOf,run_underlying ht,h0,hg]
   done
end
theorem len64(x:Int)(h0:0<x)(h1:x<256):Ret Tryz.prog 214 [.int .u64 x] (fun v=>∃ q:Int,v=I q∧0≤q∧q≤8∧((2 ^ q.toNat:Nat):Int)≤2*x):=by
 refine enterO tabOk (N:=25) (gs:=[]) (args:=[_]) Tryz.func214 rfl rfl rfl (nLe rfl) (fun E hE=>?_)
 have hw:IntKind.u8.wrap x=x:=by
  simp only [IntKind.wrap,IntKind.bits,IntKind.signed]
  simp
  omega
 conv=>whnf
 repeat' ((first|refine QAt.tab8 rfl (by kernel_rfl) rfl (by rw [hw];omega) (by rw [hw];omega) (by kernel_rfl) (fun u h0 h1 h2=>?_)|refine Br.pf (by omega) ?_|refine Ob.mk (by unfold W.I64 at *;omega) ?_|refine FinAt.val rfl ?_);conv=>whnf)
 refine⟨0+u,rfl,by omega,by omega,?_⟩
 rw [hw] at h2
 rw [Int.zero_add]
 exact h2 (by assumption)
theorem bitsLen(x:Int)(h0:0<x)(h1:x<256):Ret Tryz.prog 197 [.int .u64 x] (fun v=>∃ q:Int,v=I q∧0≤q∧q≤8∧((2 ^ q.toNat:Nat):Int)≤2*x):=by
 refine enterO tabOk (N:=8) (gs:=[]) (args:=[_]) Tryz.func197 rfl rfl rfl (nLe rfl) (fun E hE=>?_)
 conv=>whnf
 repeat' ((refine Br.of rfl ?_);conv=>whnf)
 refine CallS.call (CallN.puP (len64 x h0 h1) rfl (fun r hr=>?_))
 obtain⟨q,rfl,h2⟩:=hr
 conv=>whnf
 repeat' ((refine FinAt.val rfl ?_);conv=>whnf)
 exact⟨q,rfl,h2⟩
theorem nextPow(x:Int)(h0:0<x)(h1:x<256):Ret Tryz.prog 221 [I x] (fun v=>∃ q:Int,v=.int .u64 q∧1≤q∧q≤2*x):=by
 refine enterO tabOk (N:=7) (gs:=[]) (args:=[_]) Tryz.func221 rfl rfl rfl (nLe rfl) (fun E hE=>?_)
 have hw:IntKind.u64.wrap x=x:=wrap_u64_id (by omega) (by omega)
 conv=>whnf
 refine CallS.call (CallN.puP (by rw [hw];exact bitsLen x h0 h1) rfl (fun r hr=>?_))
 obtain⟨q,rfl,h2,h3,h4⟩:=hr
 conv=>whnf
 repeat' ((first|refine QAt.shl1 rfl rfl rfl h2 (by omega) ?_|refine FinAt.val rfl ?_);conv=>whnf)
 have:=Nat.two_pow_pos q.toNat
 exact⟨_,rfl,by omega,h4⟩
theorem xorNext(x:Int):RetO Tryz.prog 222 [.blk [.int .u64 x]] [.own 0 0] (fun r gs'=>∃ y:Int,r=.int .u64 y∧0≤y∧y<18446744073709551616∧gs'=[.blk [.int .u64 y]]):=by
 refine enterO tabOk (N:=33) (gs:=[_]) (args:=[_]) Tryz.func222 rfl rfl rfl (nLe rfl) (fun E hE=>?_)
 conv=>whnf
 repeat' ((first|refine QAt.shlU rfl rfl rfl (by omega) (fun r h0 h1=>?_)|refine QAt.shrU rfl rfl rfl (by omega) (by omega) (by omega) (fun r h0 h1=>?_)|refine QAt.xorU rfl rfl rfl (fun r h0 h1=>?_)|refine Drw.loose (by kernel_rfl) ?_);conv=>whnf)
 exact FinAt.asis (ars:=[.int .u64 _]) [] (RvL.pu rfl) (by simp) (by show 1≤_;simp) rfl ⟨_,rfl,by omega,by omega,rfl⟩
theorem breakO(l:List Int)(r:List Value)(n c:Nat)(x y:Int)(hn:l.length=n)(h0:0≤x)(hz:x≤y)(hb:y≤n)(hc:n≤255) :
  SortC i1 1 227 n c l r [I x,I y] (·=.tup []):=by
 obtain⟨a,rfl⟩:=Int.eq_ofNat_of_zero_le h0
 obtain⟨b,rfl⟩:=Int.eq_ofNat_of_zero_le (show 0≤y by omega)
 refine enterO tabOk (N:=65) (gs:=[_]) (args:=[_,_,_]) Tryz.func227 rfl rfl rfl (nLe rfl) (fun E hE=>?_)
 conv=>whnf
 repeat' (first|((refine Ob.mk (by unfold W.I64 at *;omega) ?_);conv=>whnf)|((refine Br.d (fun h=>?_) (fun h=>?_))<;>conv=>whnf))
 rotate_left
 ·exact FinAt.asis (ars:=[]) [] RvL.nil (by simp) (by show 1≤_;simp) okAr ⟨rfl,l,.refl _,rfl⟩
 refine CallS.call (CallN.puP (nextPow ((b:Int)-a) (by omega) (by omega)) rfl (fun m hm=>?_))
 obtain⟨m,rfl,hm1,hm2⟩:=hm
 conv=>whnf
 repeat' ((refine Ob.mk (by unfold W.I64 at *;omega) ?_);conv=>whnf)
 refine LoopAt.rule tabOk [(0,_),(1,_),(6,_),(7,_),(8,_)] (fun (q:Nat×Int×List Int)=>[(9,.int .i64 (q.1:Int))]) (fun (q:Nat×Int×List Int)=>[.blk (ar i1 q.2.2 r),.blk [.int .u64 q.2.1]]) (fun (q:Nat×Int×List Int)=>q.2.2.Perm l∧(a:Int)≤q.1∧(q.1:Int)≤a+((b:Int)-a)/4*2+2) (fun (q:Nat×Int×List Int)=>(a+(b-a)/4*2+2)-q.1) (a+(b-a)/4*2-1,_,l) (by (repeat refine And.intro (by first|rfl|exact congrArg (fun z=>some (AV.int .i64 z)) (by first|omega|(dsimp only;omega))) ?_);exact trivial) ⟨.refl _,by dsimp only;omega,by dsimp only;omega⟩ (by (repeat refine And.intro (by first|rfl|exact congrArg (fun z=>some (AV.int .i64 z)) (by first|omega|(dsimp only;omega))) ?_);exact trivial) (by (repeat refine And.intro (by first|rfl|exact congrArg (fun z=>some (AV.int .i64 z)) (by first|omega|(dsimp only;omega))) ?_);exact trivial) (fun _=>⟨rfl,rfl,okAr2 rfl,by simp [hE]⟩) (fun q hk=>?_)
 obtain⟨q,y,l1⟩:=q
 obtain⟨hp,hq,hq2⟩:=hk
 dsimp only at hp hq hq2 ⊢
 have hl1:=hp.length_eq
 conv=>whnf
 repeat' (first|((refine Ob.mk (by unfold W.I64 at *;omega) ?_);conv=>whnf)|((refine Br.d (fun h=>?_) (fun h=>?_))<;>conv=>whnf))
 rotate_left
 ·exact FinAt.asis (ars:=[]) [] RvL.nil (by simp) (by show 1≤_;simp) okAr ⟨rfl,l1,hp,rfl⟩
 refine CallS.call (CallN.upd [1] [] (RvJL.cons (RvJ.ownP rfl) RvJL.nil) (Als.nil _) (by simp) (Giv.one rfl (by simp) (RcJ.pu rfl)) (xorNext y) (fun v gs ⟨y',h1,h2,h3,h4⟩ _=>?_))
 subst h1
 subst h4
 have hw:IntKind.u64.wrap (m-1)=m-1:=wrap_u64_id (by omega) (by omega)
 conv=>whnf
 repeat' (first|((first|with_reducible refine Ix.nat _ ?_|refine Ix.tn (by omega) ?_|refine Pc.sym ?_|refine LdAt.one (e:=i1) (v:=I) (fun _=>rfl) (fun _=>rfl) 0 rfl _ rfl (by omega) ?_|refine StAt.el (e:=i1) (n:=1) i1_len _ rfl rfl _ (Nat.mul_one _).symm (by first|omega|(simp only [List.length_set];omega)) ?_|(refine Drw.len 20 17 rfl rfl ?_;refine Drw.lateP tabOk [0,1,6,7,8,9,10,11,12,13,14,15,16] [2,3,4,5] [17,18,19] (by kernel_rfl) (by kernel_rfl) ?_)|refine QAt.andU rfl rfl rfl (by rw [hw];omega) (by rw [hw];omega) (fun z hz0 hz1=>?_)|refine Ob.mk (by omega) ?_|refine Ob.mk (by unfold W.I64 at *;omega) ?_);conv=>whnf)|((refine Br.d (fun h=>?_) (fun h=>?_))<;>conv=>whnf))
 all_goals
  rw [hw] at hz1
  refine⟨(q+1,y',_),⟨?_,by dsimp only;omega,by dsimp only;omega⟩,by dsimp only;omega,(by (repeat refine And.intro (by first|rfl|exact congrArg (fun z=>some (AV.int .i64 z)) (by first|omega|(dsimp only;omega))) ?_);exact trivial),(by trivial),(by trivial)⟩
  exact(swap_perm 0 (by omega) (by omega)).trans hp
def CntC{α:Type}(e:α→List AV)(sz f n c:Nat)(l:List α)(r:List Value)(k d:Int)(xs:List AV)(p:AV→Prop):Prop :=
 RetO Tryz.prog f [.blk (ar e l r),.blk [I k]] (.sl 0 0 sz n c::xs) (fun x gs=>p x∧∃ k',k≤k'∧k'≤k+d∧gs=[.blk (ar e l r),.blk [I k']])
theorem CallS.cnt{α:Type}{e:α→List AV}{sz f n c:Nat}{l:List α}{r:List Value}{k d:Int}{xs:List AV}{p:AV→Prop}{N:Nat}{E:En}{o:Oper}{K:Tm→Ow→Prop}{tm:Tm}{own:Ow}{ws:List AV}(h:CntC e sz f n c l r k d xs p)(hv:RvJL (.blk (ar e l r)::.blk [I k]::own) [0,1] [] ws xs)(he:∀ x,puL (e x)=true)(he2:∀ x,rnL1 [0,1] (e x)=e x)
  (hK:∀ x k',p x→k≤k'→k'≤k+d→put N tm o.dst x fun tm=>K tm (.blk (ar e l r)::.blk [I k']::own)):CallS Tryz.prog N E o f (.sl 0 0 sz n c::ws) K tm (.blk (ar e l r)::.blk [I k]::own):=by
 refine .call (CallN.upd [0,1] [] (RvJL.cons (RvJ.sl rfl) hv) (Als.nil _) (by simp) ⟨rfl,by decide,by simp,Giv.consB rfl (RcJ.pu (puL_ar he l r)) (Giv.consB rfl (RcJ.pu rfl) Giv.done)⟩ h (fun x gs ⟨h1,k',h2,h3,h4⟩ _=>?_))
 subst h4
 have:=hK x k' h1 h2 h3
 simp only [List.map_cons,List.map_nil,rnO,rnL1_ar [0,1] he2,putJ,killI,List.set_cons_zero,List.set_cons_succ]
 exact this
theorem order2O(l:List Int)(r:List Value)(n c:Nat)(k x y:Int)(hn:l.length=n)(h0:0≤x)(hx:x<n)(h1:0≤y)(hy:y<n)(hk:0≤k)(hk2:k≤1000) :
  CntC i1 1 242 n c l r k 1 [I x,I y,.own 1 0] (fun v=>v=.tup [I x,I y]∨v=.tup [I y,I x]):=by
 obtain⟨a,rfl⟩:=Int.eq_ofNat_of_zero_le h0
 obtain⟨b,rfl⟩:=Int.eq_ofNat_of_zero_le h1
 refine enterO tabOk (N:=28) (gs:=[_,_]) (args:=[_,_,_,_]) Tryz.func242 rfl rfl rfl (nLe rfl) (fun E hE=>?_)
 conv=>whnf
 repeat' (first|((first|with_reducible refine Ix.nat _ ?_|refine Pc.sym ?_|refine LdAt.one (e:=i1) (v:=I) (fun _=>rfl) (fun _=>rfl) 0 rfl _ rfl (by omega) ?_|refine CallX.pu (less _ _) rfl rfl ?_|refine Ob.mk (by omega) ?_|refine Ob.mk (by unfold W.I64 at *;omega) ?_|refine Drw.loose (by kernel_rfl) ?_);conv=>whnf)|((refine Br.d (fun h=>?_) (fun h=>?_))<;>conv=>whnf))
 ·exact FinAt.asis (ars:=[I _,I _]) [] (RvL.pu rfl) (by simp) (by show 2≤_;simp) (okAr2 rfl) ⟨.inr rfl,k+1,by omega,by omega,rfl⟩
 ·exact FinAt.asis (ars:=[I _,I _]) [] (RvL.pu rfl) (by simp) (by show 2≤_;simp) (okAr2 rfl) ⟨.inl rfl,k,by omega,by omega,rfl⟩
theorem medianO(l:List Int)(r:List Value)(n c:Nat)(k x y z:Int)(hn:l.length=n)(h0:0≤x)(hx:x<n)(h1:0≤y)(hy:y<n)(h2:0≤z)(hz:z<n)(hk:0≤k)(hk2:k≤900) :
  CntC i1 1 240 n c l r k 3 [I x,I y,I z,.own 1 0] (fun v=>∃ p,v=I p∧(p=x∨p=y∨p=z)):=by
 refine enterO tabOk (N:=36) (gs:=[_,_]) (args:=[_,_,_,_,_]) Tryz.func240 rfl rfl rfl (nLe rfl) (fun E hE=>?_)
 conv=>whnf
 refine CallS.cnt (order2O l r n c k _ _ hn (by omega) (by omega) (by omega) (by omega) (by omega) (by omega)) (RvJL.cons (RvJ.pu rfl) (RvJL.cons (RvJ.pu rfl) (RvJL.cons (RvJ.ownP rfl) RvJL.nil))) (fun _=>rfl) (fun _=>rfl) (fun v k1 hv hk1 hk1'=>?_)
 rcases hv with rfl|rfl
 all_goals
  conv=>whnf
  refine CallS.cnt (order2O l r n c k1 _ _ hn (by omega) (by omega) (by omega) (by omega) (by omega) (by omega)) (RvJL.cons (RvJ.pu rfl) (RvJL.cons (RvJ.pu rfl) (RvJL.cons (RvJ.ownP rfl) RvJL.nil))) (fun _=>rfl) (fun _=>rfl) (fun v k2 hv hk2 hk2'=>?_)
  rcases hv with rfl|rfl
 all_goals
  conv=>whnf
  refine CallS.cnt (order2O l r n c k2 _ _ hn (by omega) (by omega) (by omega) (by omega) (by omega) (by omega)) (RvJL.cons (RvJ.pu rfl) (RvJL.cons (RvJ.pu rfl) (RvJL.cons (RvJ.ownP rfl) RvJL.nil))) (fun _=>rfl) (fun _=>rfl) (fun v k3 hv hk3 hk3'=>?_)
  rcases hv with rfl|rfl
 all_goals
  conv=>whnf
  exact FinAt.asis (ars:=[I _]) [] (RvL.pu rfl) (by simp) (by show 2≤_;simp) (okAr2 rfl) ⟨⟨_,rfl,by simp⟩,k3,by omega,by omega,rfl⟩
theorem medAdjO(l:List Int)(r:List Value)(n c:Nat)(k x:Int)(hn:l.length=n)(h0:1≤x)(hx:x+1<n)(hk:0≤k)(hk2:k≤900)(hc:n≤1000000) :
  CntC i1 1 239 n c l r k 3 [I x,.own 1 0] (fun v=>∃ p,v=I p∧x-1≤p∧p≤x+1):=by
 refine enterO tabOk (N:=15) (gs:=[_,_]) (args:=[_,_,_]) Tryz.func239 rfl rfl rfl (nLe rfl) (fun E hE=>?_)
 conv=>whnf
 repeat' ((refine Ob.mk (by unfold W.I64 at *;omega) ?_);conv=>whnf)
 refine CallS.cnt (medianO l r n c k _ _ _ hn (by omega) (by omega) (by omega) (by omega) (by omega) (by omega) (by omega) (by omega)) (RvJL.cons (RvJ.pu rfl) (RvJL.cons (RvJ.pu rfl) (RvJL.cons (RvJ.pu rfl) (RvJL.cons (RvJ.ownP rfl) RvJL.nil)))) (fun _=>rfl) (fun _=>rfl) (fun v k1 hv hk1 hk1'=>?_)
 obtain⟨p,rfl,hp⟩:=hv
 conv=>whnf
 exact FinAt.asis (ars:=[I _]) [] (RvL.pu rfl) (by simp) (by show 2≤_;simp) (okAr2 rfl) ⟨⟨p,rfl,by omega,by omega⟩,k1,by omega,by omega,rfl⟩
theorem pivotO(l:List Int)(r:List Value)(n c:Nat)(x y:Int)(hn:l.length=n)(h0:0≤x)(hx:x<y)(hy:y≤n)(hc:n≤1000000) :
  SortC i1 1 228 n c l r [I x,I y] (fun v=>∃ p h,v=.tup [I p,I h]∧x≤p∧p<y):=by
 have fin:∀ (p h k:Int),x≤p→p<y→FinAt 1 [I p,I h] [.blk (ar i1 l r),.blk [I k]] (fun v gs=>(∃ p h,v=.tup [I p,I h]∧x≤p∧p<y)∧∃ l',l'.Perm l∧gs=[.blk (ar i1 l' r)]):=fun p h k h1 h2=>FinAt.asis (ars:=[I _,I _]) [] (RvL.pu rfl) (by simp) (by show 1≤_;simp) okAr ⟨⟨p,h,rfl,h1,h2⟩,l,.refl _,rfl⟩
 refine enterO tabOk (N:=57) (gs:=[_]) (args:=[_,_,_]) Tryz.func228 rfl rfl rfl (nLe rfl) (fun E hE=>?_)
 conv=>whnf
 repeat' (first|((first|refine Br.pt (by omega) ?_|refine Ob.mk (by unfold W.I64 at *;omega) ?_);conv=>whnf)|((refine Br.d (fun h=>?_) (fun h=>?_))<;>conv=>whnf))
 ·refine CallS.cnt (medAdjO l r n c 0 _ hn (by omega) (by omega) (by omega) (by omega) hc) (RvJL.cons (RvJ.pu rfl) (RvJL.cons (RvJ.ownP rfl) RvJL.nil)) (fun _=>rfl) (fun _=>rfl) (fun v k1 hv hk1 hk1'=>?_)
  obtain⟨p1,rfl,hp1,hp1'⟩:=hv
  conv=>whnf
  refine CallS.cnt (medAdjO l r n c k1 _ hn (by omega) (by omega) (by omega) (by omega) hc) (RvJL.cons (RvJ.pu rfl) (RvJL.cons (RvJ.ownP rfl) RvJL.nil)) (fun _=>rfl) (fun _=>rfl) (fun v k2 hv hk2 hk2'=>?_)
  obtain⟨p2,rfl,hp2,hp2'⟩:=hv
  conv=>whnf
  refine CallS.cnt (medAdjO l r n c k2 _ hn (by omega) (by omega) (by omega) (by omega) hc) (RvJL.cons (RvJ.pu rfl) (RvJL.cons (RvJ.ownP rfl) RvJL.nil)) (fun _=>rfl) (fun _=>rfl) (fun v k3 hv hk3 hk3'=>?_)
  obtain⟨p3,rfl,hp3,hp3'⟩:=hv
  conv=>whnf
  refine CallS.cnt (medianO l r n c k3 _ _ _ hn (by omega) (by omega) (by omega) (by omega) (by omega) (by omega) (by omega) (by omega)) (RvJL.cons (RvJ.pu rfl) (RvJL.cons (RvJ.pu rfl) (RvJL.cons (RvJ.pu rfl) (RvJL.cons (RvJ.ownP rfl) RvJL.nil)))) (fun _=>rfl) (fun _=>rfl) (fun v k4 hv hk4 hk4'=>?_)
  obtain⟨p4,rfl,hp4⟩:=hv
  conv=>whnf
  repeat' ((refine Br.d (fun h=>?_) (fun h=>?_))<;>conv=>whnf)
  all_goals exact fin _ _ _ (by omega) (by omega)
 ·refine CallS.cnt (medianO l r n c 0 _ _ _ hn (by omega) (by omega) (by omega) (by omega) (by omega) (by omega) (by omega) (by omega)) (RvJL.cons (RvJ.pu rfl) (RvJL.cons (RvJ.pu rfl) (RvJL.cons (RvJ.pu rfl) (RvJL.cons (RvJ.ownP rfl) RvJL.nil)))) (fun _=>rfl) (fun _=>rfl) (fun v k4 hv hk4 hk4'=>?_)
  obtain⟨p4,rfl,hp4⟩:=hv
  conv=>whnf
  repeat' (first|((refine Br.pf (by omega) ?_);conv=>whnf)|((refine Br.d (fun h=>?_) (fun h=>?_))<;>conv=>whnf))
  all_goals exact fin _ _ _ (by omega) (by omega)
 all_goals exact fin _ _ _ (by omega) (by omega)
theorem madeInt(kd:IntKind)(n:Nat):madeCells (Value.int kd 0).cells n=(List.replicate n (Value.int kd 0)).toArray:=by
 apply Array.ext
 ·simp [madeCells]
 ·intro i h1 h2
  simp [madeCells,Value.cells,Nat.mod_one]
theorem OpAt.mkSl{P:Program}{N:Nat}{E:En}{o:Oper}{tm:Tm}{own:Ow}{K:Tm→Ow→Prop}{t et:TypeId}{x y:Operand}{m bts:Nat}{kd:IntKind}{e:Int→List AV}(he:∀ x,e x=[.int kd x])(ho:o.op=.makeSlice t x y)(ht:P.underlying t=some (.slice et))(hi:(P.info? et).map (fun i=>(i.zero,i.size,i.bytes))=some (some (.int kd 0),1,bts))(hb:bts*m≤281474976710656)(hm:m≤1000000000)
  (hx:ev tm x fun v=>v=.int .i64 m) (hy:ev tm y fun v=>v=.int .i64 m) (hK:put N tm o.dst (.sl own.length 0 1 m m) fun tm=>K tm (own++[.blk (ar e (List.replicate m 0) [])])):OpAt P N E o K tm own:=by
 refine⟨fun S ids a n hs Q=>?_⟩
 obtain⟨i,h1,h5⟩:=Option.map_eq_some_iff.1 hi
 simp only [Prod.mk.injEq] at h5
 obtain⟨h2,h3,h4⟩:=h5
 obtain⟨_,rfl,hx⟩:=ev_sound hx
 obtain⟨_,rfl,hy⟩:=ev_sound hy
 have ex:=(hx S n ids a hs.sl).int
 have ey:=(hy S n ids a hs.sl).int
 have hcs:ar e (List.replicate m (0:Int)) []=List.replicate m (.int kd 0):=by
  unfold ar
  rw [List.map_nil,List.append_nil]
  have:∀ m,List.flatMap e (List.replicate m (0:Int))=List.replicate m (.int kd 0):=fun m=>by
   induction m with
   |zero=>rfl
   |succ m ih=>rw [List.replicate_succ,List.flatMap_cons,ih,he];rfl
  exact this m
 have hall:all2 (R1 S n ids) (List.replicate m (.int kd 0)) (List.replicate m (Value.int kd 0)):=by
  have:∀ m,all2 (R1 S n ids) (List.replicate m (.int kd 0)) (List.replicate m (Value.int kd 0)):=fun m=>by
   induction m with
   |zero=>trivial
   |succ m ih=>exact⟨rfl,ih⟩
  exact this m
 have hb':(i.bytes:Int)*(m:Int)≤281474976710656:=by
  rw [h4]
  have h:((bts*m:Nat):Int)≤281474976710656:=by omega
  rwa [Int.natCast_mul] at h
 have hr:=run_make (P:=P) n t et i (.int kd 0) ht h1 h2 .i64 .i64 m m (by omega) (Int.le_refl _) hb' (by omega)
 rw [h3,Nat.mul_one,Int.toNat_natCast,madeInt] at hr
 rw [hcs] at hK
 have hs1:=hs.new (List.replicate m (.int kd 0)) (List.replicate m (Value.int kd 0)) et hall
 obtain⟨tm',k1,k2⟩:=put_sound hK
 have hv:R S (n.alloc (.cells (List.replicate m (Value.int kd 0)).toArray et)) (ids++[Loc.at_ n.heap.size]) (.sl own.length 0 1 m m) (.slice (some ⟨n.heap.size,0,none⟩) m m):=⟨n.heap.size,by rw [← hs.len,nth_append_new],rfl⟩
 have:=k2 E _ S _ a _ _ hs1 hv
 unfold Oper.wp execOp
 simp only [ho,ex,ey,Sem.run_bind,hr,Result.andThen_ok,Sem.run_pure]
 exact⟨tm',_,S,_,k1,this⟩
def U64(q:Int):Prop:=0≤q∧q<18446744073709551616
theorem wMul(a b:Int)(ha:U64 a)(hb:U64 b):Ret Tryz.prog 190 [.int .u64 a,.int .u64 b] (·=.agg [.int .u64 (hiN (a.toNat*b.toNat):Int),.int .u64 (loN (a.toNat*b.toNat):Int)]):=by
 unfold U64 at ha hb
 obtain⟨p,rfl⟩:=Int.eq_ofNat_of_zero_le ha.1
 obtain⟨q,rfl⟩:=Int.eq_ofNat_of_zero_le hb.1
 exact Ret.flat rfl rfl fun w=>wmulN p q w (by omega) (by omega)
theorem wCmp(a b c d:Int):Ret Tryz.prog 203 [.agg [.int .u64 a,.int .u64 b],.agg [.int .u64 c,.int .u64 d]] (·=I (W.cmp a b c d)):=Ret.flat rfl rfl fun w=>wcmp_any a b c d w
section
variable{P:Program}{o:Oper}{tm:Tm}{own:Ow}{K:AV→Prop}
theorem QAt.shlE{t t':TypeId}{x y:Operand}{k:IntKind}{q:Int}(ho:o.op=.binOp .shl t x y t')(hx:ev tm x fun v=>v=.int .u64 1)(hy:ev tm y fun v=>v=.int k q)(j:Nat)(hq:q=j)(hq2:j≤63)(hK:K (.int .u64 ((2 ^ j:Nat):Int))):QAt P o tm own K:=by
 subst hq
 have hp:2 ^ j≤2 ^ 63:=Nat.pow_le_pow_right (by omega) hq2
 have hp0:0<2 ^ j:=Nat.two_pow_pos _
 have hm:min j IntKind.u64.bits=j:=Nat.min_eq_left (by show j≤64;omega)
 refine QAt.bin ho hx hy rfl rfl (r:=.int .u64 ((2 ^ j:Nat):Int)) rfl (fun w=>?_) hK
 simp only [val]
 rw [Sem.run_bind,guard_int]
 have hq':¬ ((j:Int)<0):=by omega
 simp only [Go.binOp,Op.shift,hq',if_false,Int.toNat_natCast]
 rw [hm,Int.one_mul]
 have e:((2:Int) ^ j)=((2 ^ j:Nat):Int):=by rw [Int.natCast_pow];rfl
 rw [e,wrap_u64_id (by omega) (by have:(2:Nat) ^ 63=9223372036854775808:=(by decide);omega)]
 rfl
theorem QAt.orE{t t':TypeId}{x y:Operand}(p q:Nat)(hp:p<2 ^ 64)(hq:q<2 ^ 64)(ho:o.op=.binOp .or t x y t')(hx:ev tm x fun v=>v=.int .u64 (p:Int))(hy:ev tm y fun v=>v=.int .u64 (q:Int))(hK:K (.int .u64 ((p ||| q:Nat):Int))):QAt P o tm own K:=by
 have e:(BitVec.ofInt 64 (p:Int) ||| BitVec.ofInt 64 (q:Int):BitVec 64).toNat=p ||| q:=by
  rw [BitVec.toNat_or,BitVec.toNat_ofInt,BitVec.toNat_ofInt]
  congr 1<;>omega
 have hlt:=Nat.or_lt_two_pow hp hq
 refine QAt.bin ho hx hy rfl rfl (r:=.int .u64 (IntKind.u64.wrap (((BitVec.ofInt 64 (p:Int) ||| BitVec.ofInt 64 (q:Int):BitVec 64).toNat:Nat):Int))) rfl (fun w=>?_) ?_
 ·simp only [val]
  rw [Sem.run_bind,guard_int]
  rfl
 ·rw [e,wrap_u64_id (by omega) (by have:(2:Nat) ^ 64=18446744073709551616:=(by decide);omega)]
  exact hK
end
theorem wRoot(h l:Int)(hh:0≤h∧h<4611686018427387904):Ret Tryz.prog 191 [.agg [.int .u64 h,.int .u64 l]] (fun v=>∃ q:Nat,v=.int .u64 (q:Int)∧q<9223372036854775808):=by
 refine enterO tabOk (N:=23) (gs:=[]) (args:=[_]) Tryz.func191 rfl rfl rfl (nLe rfl) (fun E hE=>?_)
 conv=>whnf
 refine LoopAt.rule tabOk [(1,_)] (fun (i:Nat×Nat)=>[(3,.int .u64 (i.1:Int)),(4,.int .i64 ((i.2:Int)-1))]) (fun (i:Nat×Nat)=>[.blk [.int .u64 h,.int .u64 l]]) (fun (i:Nat×Nat)=>(i.2=64∧i.1=0)∨(i.2≤63∧i.1<9223372036854775808)) (fun (i:Nat×Nat)=>i.2) (0,64) (by trivial) (.inl ⟨rfl,rfl⟩) (by trivial) (by trivial) (fun _=>⟨rfl,rfl,rfl,by simp [hE]⟩) (fun i hk=>?_)
 obtain⟨q,k⟩:=i
 dsimp only at hk ⊢
 rcases hk with ⟨rfl,rfl⟩|⟨hk,hq⟩
 ·have hor:((0 ||| 2 ^ 63:Nat):Int)=9223372036854775808:=by decide
  have hu:U64 ((0 ||| 2 ^ 63:Nat):Int):=by rw [hor];unfold U64;omega
  have hm:hiN (((0 ||| 2 ^ 63:Nat):Int).toNat*((0 ||| 2 ^ 63:Nat):Int).toNat)=4611686018427387904:=by decide
  have hc:W.cmp (hiN (((0 ||| 2 ^ 63:Nat):Int).toNat*((0 ||| 2 ^ 63:Nat):Int).toNat):Int) (loN (((0 ||| 2 ^ 63:Nat):Int).toNat*((0 ||| 2 ^ 63:Nat):Int).toNat):Int) h l=1:=by
   rw [hm]
   unfold W.cmp
   rw [if_neg (by omega),if_neg (by omega)]
  have hwz:IntKind.u64.wrap (((64:Nat):Int)-1)=(63:Nat):=by decide
  conv=>whnf
  repeat' ((first|refine QAt.shlE rfl rfl rfl 63 hwz (by omega) ?_|refine QAt.orE 0 (2 ^ 63) (by decide) (by decide) rfl rfl rfl ?_|refine Br.pt (by omega) ?_|refine Br.pf (by omega) ?_|refine CallX.pu (wMul _ _ hu hu) rfl rfl ?_|refine CallX.pu (wCmp _ _ _ _) rfl rfl ?_|refine Ob.mk (by unfold W.I64 at *;omega) ?_|refine Drw.loose (by kernel_rfl) ?_);conv=>whnf)
  all_goals first
   |exact⟨(0,63),.inr ⟨by omega,by omega⟩,by dsimp only;omega,(by (repeat refine And.intro (by first|rfl|exact congrArg (fun z=>some (AV.int .i64 z)) (by first|omega|(dsimp only;omega))) ?_);exact trivial),(by trivial),(by trivial)⟩
   |(exfalso;omega)
 ·by_cases hk0:k=0
  ·subst hk0
   conv=>whnf
   repeat' ((first|refine Br.nf (by assumption) ?_|refine FinAt.val rfl ?_);conv=>whnf)
   exact⟨q,rfl,hq⟩
  ·obtain⟨j,rfl⟩:∃ j,k=j+1:=⟨k-1,by omega⟩
   have hj:2 ^ j<2 ^ 63:=Nat.pow_lt_pow_right (by omega) (by omega)
   have hor:q ||| 2 ^ j<2 ^ 63:=Nat.or_lt_two_pow (by rw [show (2:Nat) ^ 63=9223372036854775808 by decide];exact hq) hj
   rw [show (2:Nat) ^ 63=9223372036854775808 by decide] at hor hj
   have hu:U64 ((q ||| 2 ^ j:Nat):Int):=by unfold U64;omega
   have hwz:IntKind.u64.wrap (((j+1:Nat):Int)-1)=(j:Nat):=by rw [wrap_u64_id (by omega) (by omega)];omega
   conv=>whnf
   repeat' (first|((first|refine QAt.shlE rfl rfl rfl j hwz (by omega) ?_|refine QAt.orE q (2 ^ j) (by omega) (by omega) rfl rfl rfl ?_|refine Br.pt (by omega) ?_|refine CallX.pu (wMul _ _ hu hu) rfl rfl ?_|refine CallX.pu (wCmp _ _ _ _) rfl rfl ?_|refine Ob.mk (by unfold W.I64 at *;omega) ?_|refine Drw.loose (by kernel_rfl) ?_);conv=>whnf)|((refine Br.d (fun h=>?_) (fun h=>?_))<;>conv=>whnf))
   ·exact⟨(q ||| 2 ^ j,j),.inr ⟨by omega,by omega⟩,by dsimp only;omega,(by (repeat refine And.intro (by first|rfl|exact congrArg (fun z=>some (AV.int .i64 z)) (by first|omega|(dsimp only;omega))) ?_);exact trivial),(by trivial),(by trivial)⟩
   ·exact⟨(q,j),.inr ⟨by omega,hq⟩,by dsimp only;omega,(by (repeat refine And.intro (by first|rfl|exact congrArg (fun z=>some (AV.int .i64 z)) (by first|omega|(dsimp only;omega))) ?_);exact trivial),(by trivial),(by trivial)⟩
theorem hiN_small(a b:Nat)(ha:a<9223372036854775808)(hb:b<9223372036854775808):hiN (a*b)<4611686018427387904:=by
 have:a*b≤9223372036854775807*9223372036854775807:=Nat.mul_le_mul (by omega) (by omega)
 unfold hiN
 omega
theorem rRoot(a b:Int)(ha:W.I64 a)(hb:W.I64 b):Ret Tryz.prog 155 [I a,I b] (fun v=>∃ q e:Int,v=.tup [I q,I e]∧W.I64 q):=by
 refine enterO tabOk (N:=19) (gs:=[]) (args:=[_,_]) Tryz.func155 rfl rfl rfl (nLe rfl) (fun E hE=>?_)
 unfold W.I64 at ha hb
 by_cases hab:0≤a∧0≤b
 ·have h1:IntKind.u64.wrap a=a:=wrap_u64_id (by omega) (by omega)
  have h2:IntKind.u64.wrap b=b:=wrap_u64_id (by omega) (by omega)
  have hm:=wMul a b (by unfold U64;omega) (by unfold U64;omega)
  have hs:=hiN_small a.toNat b.toNat (by omega) (by omega)
  obtain⟨hi,ehi⟩:∃ hi,hi=hiN (a.toNat*b.toNat):=⟨_,rfl⟩
  obtain⟨lo,elo⟩:∃ lo,lo=loN (a.toNat*b.toNat):=⟨_,rfl⟩
  have hs0:0≤hiN (a.toNat*b.toNat):=by unfold hiN;omega
  rw [← ehi] at hs hs0
  rw [← ehi,← elo] at hm
  conv=>whnf
  repeat' ((refine Br.pf (by omega) ?_);conv=>whnf)
  rw [h1,h2]
  refine CallS.call (CallN.pu hm rfl ?_)
  conv=>whnf
  refine CallS.call (CallN.puP (wRoot _ _ ⟨by omega,by omega⟩) rfl (fun v hv=>?_))
  obtain⟨q,rfl,hq⟩:=hv
  conv=>whnf
  repeat' ((first|refine Ob.mk (by unfold W.I64 at *;omega) ?_|refine FinAt.val rfl ?_);conv=>whnf)
  exact⟨q,0,rfl,by unfold W.I64;omega⟩
 ·conv=>whnf
  repeat' (first|((first|refine Br.pt (by assumption) ?_|refine Br.pf (by assumption) ?_|refine Br.pt (by omega) ?_|refine Br.ot rfl ?_|refine FinAt.val rfl ?_);conv=>whnf)|((refine Br.d (fun h=>?_) (fun h=>?_))<;>conv=>whnf))
  all_goals first
   |exact⟨0,10,rfl,by unfold W.I64;omega⟩
   |(exfalso;omega)
theorem permitted_(c:W.Conf)(x:Int)(hx:W.I64 x)(hc:W.I64 (2*c.brake))(hm:W.I64 c.maxSpeed):Ret Tryz.prog 109 [confV c,I x] (fun v=>∃ q:Int,v=I q∧W.I64 q):=by
 refine enterO tabOk (N:=27) (gs:=[]) (args:=[_,_]) Tryz.func109 rfl rfl rfl (nLe rfl) (fun E hE=>?_)
 have hmx:W.I64 (max x 0):=by unfold W.I64 at *;omega
 conv=>whnf
 repeat' ((refine Ob.mk (by omega) ?_);conv=>whnf)
 refine CallS.call (CallN.puP (rRoot _ _ hc hmx) rfl (fun v hv=>?_))
 obtain⟨q,e,rfl,hq⟩:=hv
 conv=>whnf
 repeat' (first|((first|refine Br.nt (by assumption) ?_|refine Br.nf (by assumption) ?_|refine Br.ot rfl ?_|refine FinAt.val rfl ?_);conv=>whnf)|((first|refine Br.d (fun h=>?_) (fun h=>?_)|refine Br.n (fun h=>?_) (fun h=>?_))<;>conv=>whnf))
 all_goals exact⟨_,rfl,by assumption⟩
abbrev bytesV(l:List Nat):AV:=.lst 1 l.length fun i=>[.int .u8 ((l.getD i 0:Nat):Int)]
theorem bytesV_drop(a b:List Nat)(k:Nat)(hk:k=a.length):AV.lst 1 ((a++b).length-k) (shf (fun i=>[.int .u8 (((a++b).getD i 0:Nat):Int)]) (some k))=bytesV b:=by
 subst hk
 unfold bytesV shf
 congr 1
 ·simp
 ·funext i
  have:(a++b).getD (a.length+i) 0=b.getD i 0:=by
   simp [List.getD,List.getElem?_append_right]
  show [AV.int IntKind.u8 (((a++b).getD (a.length+i) 0:Nat):Int)]=_
  rw [this]
theorem be_snoc(l:List Nat)(c:Nat):W.be (l++[c])=W.be l*256+c:=by simp [W.be]
theorem be_from:∀ (l:List Nat) (v:Nat),(∀ x∈l,x<256)→l.foldl (fun v c=>v*256+c) v<(v+1)*256 ^ l.length
 |[],v,_=>by simp
 |c::l,v,h=>by
  rw [List.foldl_cons,List.length_cons,Nat.pow_succ]
  have h1:=be_from l (v*256+c) fun x hx=>h x (List.mem_cons_of_mem _ hx)
  have h2:=h c List.mem_cons_self
  have h3:(v*256+c+1)*256 ^ l.length≤((v+1)*256)*256 ^ l.length:=Nat.mul_le_mul_right _ (by omega)
  have h4:(v+1)*(256 ^ l.length*256)=((v+1)*256)*256 ^ l.length:=by
   rw [Nat.mul_comm (256 ^ l.length),← Nat.mul_assoc]
  omega
theorem be_lt(l:List Nat)(h:∀ x∈l,x<256):W.be l<256 ^ l.length:=by
 have:=be_from l 0 h
 unfold W.be
 omega
section
variable{P:Program}{o:Oper}{tm:Tm}{own:Ow}{K:AV→Prop}
theorem QAt.shl8{t t':TypeId}{x y:Operand}(p:Nat)(hp:p<72057594037927936)(ho:o.op=.binOp .shl t x y t')(hx:ev tm x fun v=>v=.int .u64 (p:Int))(hy:ev tm y fun v=>v=.int .u64 8)(hK:K (.int .u64 ((p*256:Nat):Int))):QAt P o tm own K:=by
 refine QAt.bin ho hx hy rfl rfl (r:=.int .u64 ((p*256:Nat):Int)) rfl (fun w=>?_) hK
 simp only [val]
 rw [Sem.run_bind,guard_int]
 have hm:min (8:Int).toNat IntKind.u64.bits=8:=by decide
 have h8:¬ ((8:Int)<0):=by omega
 simp only [Go.binOp,Op.shift,h8,if_false,hm]
 have e:((p:Int)*(2:Int) ^ 8)=((p*256:Nat):Int):=by
  rw [show ((2:Int) ^ 8)=256 by decide]
  omega
 rw [e,wrap_u64_id (by omega) (by omega)]
 rfl
end
theorem or8(p c:Nat)(hc:c<256):p*256 ||| c=p*256+c:=by
 have:=Nat.two_pow_add_eq_or_of_lt (i:=8) hc p
 rw [Nat.mul_comm,show (256:Nat)=2 ^ 8 by decide]
 exact this.symm
theorem numC(L rest:List Nat)(n:Int)(hn:(L.length:Int)=n)(h8:L.length≤8)(hb:∀ x∈L,x<256)(hv:W.be L<9223372036854775808) :
  RetO Tryz.prog 115 [.blk [bytesV (L++rest),.bool false]] [.own 0 0,I n] (fun v gs'=>v=I (W.be L:Int)∧gs'=[.blk [bytesV rest,.bool false]]):=by
 subst hn
 have hlen:(L++rest).length=L.length+rest.length:=by simp
 refine enterO tabOk (N:=56) (gs:=[_]) (args:=[_,_]) Tryz.func115 rfl rfl rfl (nLe rfl) (fun E hE=>?_)
 have hel:∀ i,i<L.length→(L++rest).getD i 0=L.getD i 0:=fun i hi=>by simp [List.getD,List.getElem?_append_left hi]
 have hsl:(some L.length).getD (L++rest).length-(none:Option Nat).getD 0=L.length:=rfl
 have hdec:decide (((L++rest).length:Int)<(L.length:Int))=false:=decide_eq_false (by omega)
 conv=>whnf
 repeat' ((first|refine Br.of (by assumption) ?_|refine Br.of rfl ?_|refine Ob.mk (by simp only [Option.getD_some,Option.getD_none];omega) ?_|refine Ix.nat _ ?_);conv=>whnf)
 refine LoopAt.rule tabOk [(0,_),(1,_),(33,_),(34,_)] (fun (i:Nat)=>[(35,.int .i64 (i:Int)),(5,.int .u64 (W.be (L.take i):Int))]) (fun (i:Nat)=>[.blk [bytesV (L++rest),.bool (decide (((L++rest).length:Int)<(L.length:Int)))]]) (fun (i:Nat)=>i≤L.length) (fun (i:Nat)=>L.length-i) 0 (by trivial) (Nat.zero_le _) (by trivial) (by trivial) (fun _=>⟨rfl,rfl,rfl,by simp [hE]⟩) (fun i hk=>?_)
 have hbt:W.be (L.take i)<256 ^ (L.take i).length:=be_lt _ fun x hx=>hb x (List.mem_of_mem_take hx)
 by_cases hlt:i<L.length
 ·have hc:(L++rest).getD i 0<256:=by
   rw [hel i hlt]
   exact hb _ (by simp [List.getD,hlt])
  have hsn:W.be (L.take (i+1))=W.be (L.take i)*256+(L++rest).getD i 0:=by
   rw [List.take_succ_eq_append_getElem hlt,be_snoc,hel i hlt]
   simp [List.getD,hlt]
  have hp:W.be (L.take i)<72057594037927936:=by
   have h7:(L.take i).length≤7:=by rw [List.length_take];omega
   have:=Nat.pow_le_pow_right (show 0<256 by omega) h7
   have e:256 ^ 7=72057594037927936:=by decide
   omega
  have hw:IntKind.u64.wrap (((L++rest).getD i 0:Nat):Int)=(((L++rest).getD i 0:Nat):Int):=wrap_u64_id (by omega) (by omega)
  obtain⟨p,hpe⟩:∃ p,p=W.be (L.take i):=⟨_,rfl⟩
  rw [← hpe] at hsn hp ⊢
  conv=>whnf
  repeat' ((first|refine QAt.shl8 _ hp rfl rfl rfl ?_|refine QAt.orE (p*256) ((L++rest).getD i 0) (by omega) (by omega) rfl rfl (by rw [hw];rfl) ?_|refine Br.pt (by omega) ?_|refine Ob.mk (by omega) ?_|refine Ob.mk (by unfold W.I64 at *;omega) ?_|refine Ix.nat _ ?_);conv=>whnf)
  refine⟨i+1,by omega,by omega,?_,(by trivial),(by trivial)⟩
  rw [hsn,← or8 p _ hc]
  exact(by trivial)
 ·obtain rfl:i=L.length:=by omega
  rw [List.take_length]
  conv=>whnf
  repeat' ((first|refine Br.pf (by omega) ?_|refine Ob.mk (by unfold W.I64 at *;omega) ?_|refine Ob.mk (by simp only [Option.getD_some,Option.getD_none];omega) ?_|refine Ix.nat _ ?_);conv=>whnf)
  refine FinAt.asis (ars:=[I (W.be L:Int)]) [] (RvL.pu rfl) (by simp) (by show 1≤_;simp) rfl ⟨rfl,?_⟩
  have:=bytesV_drop L rest L.length rfl
  rw [← this,← hdec]
  rfl
theorem apMPiece:Ap Tryz.prog 189 200 2:=⟨.agg ⟨[.int .i64 0,.int .i64 0]⟩,16,by kernel_rfl,by kernel_rfl,rfl,by decide,by decide⟩
theorem manyPiece(xs:List W.Piece)(D:Nat→List Nat)(hx:∀ k,k<xs.length→RetO Tryz.prog 117 [.blk [bytesV (D k),.bool false]] [.own 0 0] (fun v gs'=>v=.agg (pcC (xs.getD k default))∧gs'=[.blk [bytesV (D (k+1)),.bool false]]))(hn:xs.length≤1000) :
  RetO Tryz.prog 116 [.blk [bytesV (D 0),.bool false]] [I (xs.length:Int),.fn 117 [.own 0 0] []] (fun v gs'=>v=.lst 2 xs.length (fun i=>pcC (xs.getD i default))∧gs'=[.blk [bytesV (D xs.length),.bool false]]):=by
 refine enterO tabOk (N:=16) (gs:=[_]) (args:=[_,_]) Tryz.func116 rfl rfl rfl (nLe rfl) (fun E hE=>?_)
 conv=>whnf
 refine LoopAt.emp 5 200 2 rfl ?_
 refine LoopAt.rule tabOk [(1,_),(6,_)] (fun (i:Nat×List (List AV))=>[(7,.int .i64 (i.1:Int)),(5,.gro 1 i.1)]) (fun (i:Nat×List (List AV))=>[.blk [bytesV (D i.1),.bool false],.buf 200 2 i.2]) (fun (i:Nat×List (List AV))=>i.1≤xs.length∧i.2=(List.range i.1).map (fun j=>pcC (xs.getD j default))) (fun (i:Nat×List (List AV))=>xs.length-i.1) (0,[]) (by trivial) ⟨Nat.zero_le _,rfl⟩ (by trivial) (by trivial) (fun _=>⟨rfl,rfl,rfl,by simp [hE]⟩) (fun i hk=>?_)
 obtain⟨k,cs⟩:=i
 obtain⟨hk,hcs⟩:=hk
 dsimp only at hk hcs ⊢
 have hcl:cs.length=k:=by rw [hcs,List.length_map,List.length_range]
 by_cases hlt:k<xs.length
 ·conv=>whnf
  repeat' ((refine Br.pt (by omega) ?_);conv=>whnf)
  refine CallS.call (CallN.upd [0] [] (RvJL.cons (RvJ.ownP rfl) RvJL.nil) (Als.nil _) (by simp) (Giv.one rfl (by simp) (RcJ.pu rfl)) (hx k hlt) (fun v gs' hp _=>?_))
  obtain⟨rfl,rfl⟩:=hp
  conv=>whnf
  repeat' ((first|refine OpAt.appG apMPiece rfl [2] rfl rfl rfl hcl (by simp) (by repeat (first|exact Als.nil _|refine Als.cons rfl rfl ?_)) (by simp [hE]) (Xs.one rfl rfl rfl (RvL.pu rfl) rfl) (by decide) (by omega) ?_|refine Ob.mk (by unfold W.I64 at *;omega) ?_|refine BsN.mark ?_);conv=>whnf)
  refine⟨(k+1,cs++[pcC (xs.getD k default)]),⟨by dsimp only;omega,?_⟩,by dsimp only;omega,(by trivial),(by trivial),(by trivial)⟩
  rw [List.range_succ,List.map_append,hcs]
  rfl
 ·obtain rfl:k=xs.length:=by omega
  conv=>whnf
  repeat' ((refine Br.pf (by omega) ?_);conv=>whnf)
  refine FinAt.one (ars:=[.lst 2 xs.length (fun i=>pcC (xs.getD i default))]) [1] (RvL.cons ?_ RvL.nil) (by simp [nth,alive]) rfl (RvL.pu rfl) ⟨rfl,rfl⟩
  refine Rv.gro (by simp) rfl hcl (fun j hj=>PLe.of (by rw [hcs];simp [List.getD,hj]))
theorem apMInt:Ap Tryz.prog 28 3 1:=⟨.int .i64 0,8,by kernel_rfl,by kernel_rfl,rfl,by decide,by decide⟩
theorem manyInt(xs:List Int)(D:Nat→List Nat)(hx:∀ k,k<xs.length→RetO Tryz.prog 119 [.blk [bytesV (D k),.bool false]] [.own 0 0] (fun v gs'=>v=I (xs.getD k 0)∧gs'=[.blk [bytesV (D (k+1)),.bool false]]))(hn:xs.length≤1000) :
  RetO Tryz.prog 118 [.blk [bytesV (D 0),.bool false]] [I (xs.length:Int),.fn 119 [.own 0 0] []] (fun v gs'=>v=.lst 1 xs.length (fun i=>i1 (xs.getD i 0))∧gs'=[.blk [bytesV (D xs.length),.bool false]]):=by
 refine enterO tabOk (N:=16) (gs:=[_]) (args:=[_,_]) Tryz.func118 rfl rfl rfl (nLe rfl) (fun E hE=>?_)
 conv=>whnf
 refine LoopAt.emp 5 3 1 rfl ?_
 refine LoopAt.rule tabOk [(1,_),(6,_)] (fun (i:Nat×List (List AV))=>[(7,.int .i64 (i.1:Int)),(5,.gro 1 i.1)]) (fun (i:Nat×List (List AV))=>[.blk [bytesV (D i.1),.bool false],.buf 3 1 i.2]) (fun (i:Nat×List (List AV))=>i.1≤xs.length∧i.2=(List.range i.1).map (fun j=>i1 (xs.getD j 0))) (fun (i:Nat×List (List AV))=>xs.length-i.1) (0,[]) (by trivial) ⟨Nat.zero_le _,rfl⟩ (by trivial) (by trivial) (fun _=>⟨rfl,rfl,rfl,by simp [hE]⟩) (fun i hk=>?_)
 obtain⟨k,cs⟩:=i
 obtain⟨hk,hcs⟩:=hk
 dsimp only at hk hcs ⊢
 have hcl:cs.length=k:=by rw [hcs,List.length_map,List.length_range]
 by_cases hlt:k<xs.length
 ·conv=>whnf
  repeat' ((refine Br.pt (by omega) ?_);conv=>whnf)
  refine CallS.call (CallN.upd [0] [] (RvJL.cons (RvJ.ownP rfl) RvJL.nil) (Als.nil _) (by simp) (Giv.one rfl (by simp) (RcJ.pu rfl)) (hx k hlt) (fun v gs' hp _=>?_))
  obtain⟨rfl,rfl⟩:=hp
  conv=>whnf
  repeat' ((first|refine OpAt.appG apMInt rfl [2] rfl rfl rfl hcl (by simp) (by repeat (first|exact Als.nil _|refine Als.cons rfl rfl ?_)) (by simp [hE]) (Xs.one rfl rfl rfl (RvL.pu rfl) rfl) (by decide) (by omega) ?_|refine Ob.mk (by unfold W.I64 at *;omega) ?_|refine BsN.mark ?_);conv=>whnf)
  refine⟨(k+1,cs++[i1 (xs.getD k 0)]),⟨by dsimp only;omega,?_⟩,by dsimp only;omega,(by trivial),(by trivial),(by trivial)⟩
  rw [List.range_succ,List.map_append,hcs]
  rfl
 ·obtain rfl:k=xs.length:=by omega
  conv=>whnf
  repeat' ((refine Br.pf (by omega) ?_);conv=>whnf)
  refine FinAt.one (ars:=[.lst 1 xs.length (fun i=>i1 (xs.getD i 0))]) [1] (RvL.cons ?_ RvL.nil) (by simp [nth,alive]) rfl (RvL.pu rfl) ⟨rfl,rfl⟩
  refine Rv.gro (by simp) rfl hcl (fun j hj=>PLe.of (by rw [hcs];simp [List.getD,hj]))
theorem apMSeg:Ap Tryz.prog 121 191 3:=⟨.agg ⟨[.int .i64 0,.slice none 0 0,.slice none 0 0]⟩,56,by kernel_rfl,by kernel_rfl,rfl,by decide,by decide⟩
theorem manySeg(xs:List W.Seg)(D:Nat→List Nat)(hx:∀ k,k<xs.length→RetO Tryz.prog 78 [.blk [bytesV (D k),.bool false]] [.own 0 0] (fun v gs'=>v=.agg (sgC (xs.getD k default))∧gs'=[.blk [bytesV (D (k+1)),.bool false]]))(hn:xs.length≤1000) :
  RetO Tryz.prog 76 [.blk [bytesV (D 0),.bool false]] [I (xs.length:Int),.fn 78 [.own 0 0] []] (fun v gs'=>v=.lst 3 xs.length (fun i=>sgC (xs.getD i default))∧gs'=[.blk [bytesV (D xs.length),.bool false]]):=by
 refine enterO tabOk (N:=16) (gs:=[_]) (args:=[_,_]) Tryz.func76 rfl rfl rfl (nLe rfl) (fun E hE=>?_)
 conv=>whnf
 refine LoopAt.emp 5 191 3 rfl ?_
 refine LoopAt.rule tabOk [(1,_),(6,_)] (fun (i:Nat×List (List AV))=>[(7,.int .i64 (i.1:Int)),(5,.gro 1 i.1)]) (fun (i:Nat×List (List AV))=>[.blk [bytesV (D i.1),.bool false],.buf 191 3 i.2]) (fun (i:Nat×List (List AV))=>i.1≤xs.length∧i.2=(List.range i.1).map (fun j=>sgC (xs.getD j default))) (fun (i:Nat×List (List AV))=>xs.length-i.1) (0,[]) (by trivial) ⟨Nat.zero_le _,rfl⟩ (by trivial) (by trivial) (fun _=>⟨rfl,rfl,rfl,by simp [hE]⟩) (fun i hk=>?_)
 obtain⟨k,cs⟩:=i
 obtain⟨hk,hcs⟩:=hk
 dsimp only at hk hcs ⊢
 have hcl:cs.length=k:=by rw [hcs,List.length_map,List.length_range]
 by_cases hlt:k<xs.length
 ·conv=>whnf
  repeat' ((refine Br.pt (by omega) ?_);conv=>whnf)
  refine CallS.call (CallN.upd [0] [] (RvJL.cons (RvJ.ownP rfl) RvJL.nil) (Als.nil _) (by simp) (Giv.one rfl (by simp) (RcJ.pu rfl)) (hx k hlt) (fun v gs' hp _=>?_))
  obtain⟨rfl,rfl⟩:=hp
  conv=>whnf
  repeat' ((first|refine OpAt.appG apMSeg rfl [2] rfl rfl rfl hcl (by simp) (by repeat (first|exact Als.nil _|refine Als.cons rfl rfl ?_)) (by simp [hE]) (Xs.one rfl rfl rfl (RvL.pu rfl) rfl) (by decide) (by omega) ?_|refine Ob.mk (by unfold W.I64 at *;omega) ?_|refine BsN.mark ?_);conv=>whnf)
  refine⟨(k+1,cs++[sgC (xs.getD k default)]),⟨by dsimp only;omega,?_⟩,by dsimp only;omega,(by trivial),(by trivial),(by trivial)⟩
  rw [List.range_succ,List.map_append,hcs]
  rfl
 ·obtain rfl:k=xs.length:=by omega
  conv=>whnf
  repeat' ((refine Br.pf (by omega) ?_);conv=>whnf)
  refine FinAt.one (ars:=[.lst 3 xs.length (fun i=>sgC (xs.getD i default))]) [1] (RvL.cons ?_ RvL.nil) (by simp [nth,alive]) rfl (RvL.pu rfl) ⟨rfl,rfl⟩
  refine Rv.gro (by simp) rfl hcl (fun j hj=>PLe.of (by rw [hcs];simp [List.getD,hj]))
theorem apMGrp:Ap Tryz.prog 122 195 5:=⟨.agg ⟨[.int .i64 0,.int .i64 0,.int .i64 0,.int .i64 0,.int .i64 0]⟩,40,by kernel_rfl,by kernel_rfl,rfl,by decide,by decide⟩
theorem manyGrp(xs:List W.Grp)(D:Nat→List Nat)(hx:∀ k,k<xs.length→RetO Tryz.prog 80 [.blk [bytesV (D k),.bool false]] [.own 0 0] (fun v gs'=>v=.agg (gpC (xs.getD k default))∧gs'=[.blk [bytesV (D (k+1)),.bool false]]))(hn:xs.length≤1000) :
  RetO Tryz.prog 79 [.blk [bytesV (D 0),.bool false]] [I (xs.length:Int),.fn 80 [.own 0 0] []] (fun v gs'=>v=.lst 5 xs.length (fun i=>gpC (xs.getD i default))∧gs'=[.blk [bytesV (D xs.length),.bool false]]):=by
 refine enterO tabOk (N:=16) (gs:=[_]) (args:=[_,_]) Tryz.func79 rfl rfl rfl (nLe rfl) (fun E hE=>?_)
 conv=>whnf
 refine LoopAt.emp 5 195 5 rfl ?_
 refine LoopAt.rule tabOk [(1,_),(6,_)] (fun (i:Nat×List (List AV))=>[(7,.int .i64 (i.1:Int)),(5,.gro 1 i.1)]) (fun (i:Nat×List (List AV))=>[.blk [bytesV (D i.1),.bool false],.buf 195 5 i.2]) (fun (i:Nat×List (List AV))=>i.1≤xs.length∧i.2=(List.range i.1).map (fun j=>gpC (xs.getD j default))) (fun (i:Nat×List (List AV))=>xs.length-i.1) (0,[]) (by trivial) ⟨Nat.zero_le _,rfl⟩ (by trivial) (by trivial) (fun _=>⟨rfl,rfl,rfl,by simp [hE]⟩) (fun i hk=>?_)
 obtain⟨k,cs⟩:=i
 obtain⟨hk,hcs⟩:=hk
 dsimp only at hk hcs ⊢
 have hcl:cs.length=k:=by rw [hcs,List.length_map,List.length_range]
 by_cases hlt:k<xs.length
 ·conv=>whnf
  repeat' ((refine Br.pt (by omega) ?_);conv=>whnf)
  refine CallS.call (CallN.upd [0] [] (RvJL.cons (RvJ.ownP rfl) RvJL.nil) (Als.nil _) (by simp) (Giv.one rfl (by simp) (RcJ.pu rfl)) (hx k hlt) (fun v gs' hp _=>?_))
  obtain⟨rfl,rfl⟩:=hp
  conv=>whnf
  repeat' ((first|refine OpAt.appG apMGrp rfl [2] rfl rfl rfl hcl (by simp) (by repeat (first|exact Als.nil _|refine Als.cons rfl rfl ?_)) (by simp [hE]) (Xs.one rfl rfl rfl (RvL.pu rfl) rfl) (by decide) (by omega) ?_|refine Ob.mk (by unfold W.I64 at *;omega) ?_|refine BsN.mark ?_);conv=>whnf)
  refine⟨(k+1,cs++[gpC (xs.getD k default)]),⟨by dsimp only;omega,?_⟩,by dsimp only;omega,(by trivial),(by trivial),(by trivial)⟩
  rw [List.range_succ,List.map_append,hcs]
  rfl
 ·obtain rfl:k=xs.length:=by omega
  conv=>whnf
  repeat' ((refine Br.pf (by omega) ?_);conv=>whnf)
  refine FinAt.one (ars:=[.lst 5 xs.length (fun i=>gpC (xs.getD i default))]) [1] (RvL.cons ?_ RvL.nil) (by simp [nth,alive]) rfl (RvL.pu rfl) ⟨rfl,rfl⟩
  refine Rv.gro (by simp) rfl hcl (fun j hj=>PLe.of (by rw [hcs];simp [List.getD,hj]))
end Y
end Go.Proofs.YtllemifiammnnaaGreat
