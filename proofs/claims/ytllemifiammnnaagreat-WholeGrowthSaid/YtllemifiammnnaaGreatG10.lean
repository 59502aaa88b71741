/- Part 10 of the proof. No condition. -/
import Derived.Test.YtllemifiammnnaaGreatG08
import Derived.Test.YtllemifiammnnaaGreatG06
import Derived.Test.YtllemifiammnnaaGreatG09
set_option linter.unusedVariables false
set_option linter.unusedSimpArgs false
set_option maxRecDepth 100000
set_option maxHeartbeats 4000000
namespace Go.Proofs.YtllemifiammnnaaGreat
namespace Y
open Go Go.RowKit Go.Sort
theorem drop_cons{l:List Int}{k:Nat}(h:k<l.length):l.drop k=l.getD k 0::l.drop (k+1):=drop_getD 0 h
theorem compareL(x y:List Int)(hx:x.length≤1000000)(hy:y.length≤1000000):Ret Tryz.prog 199 [isV x,isV y] (·=I (W.cmpL x y)):=by
 refine enterO tabOk (N:=36) (gs:=[]) (args:=[_,_]) Tryz.func199 rfl rfl rfl (nLe rfl) (fun E hE=>?_)
 conv=>whnf
 refine LoopAt.rule tabOk [(0,_),(1,_),(9,_),(10,_)] (fun (k:Nat)=>[(11,.int .i64 (k:Int))]) (fun (k:Nat)=>[]) (fun (k:Nat)=>k≤x.length∧k≤y.length∧W.cmpL x y=W.cmpL (x.drop k) (y.drop k)) (fun (k:Nat)=>x.length-k) 0 (by trivial) ⟨Nat.zero_le _,Nat.zero_le _,rfl⟩ (by trivial) (by trivial) (fun _=>⟨rfl,rfl,rfl,by simp [hE]⟩) (fun k hk=>?_)
 obtain⟨h1,h2,h3⟩:=hk
 by_cases hlt:k<x.length
 ·by_cases hlt2:k<y.length
  ·have e:W.cmpL (x.drop k) (y.drop k)=if W.cmpI (x.getD k 0) (y.getD k 0)≠0 then W.cmpI (x.getD k 0) (y.getD k 0) else W.cmpL (x.drop (k+1)) (y.drop (k+1)):=by
    rw [drop_cons hlt,drop_cons hlt2];rfl
   conv=>whnf
   repeat' (first|((first|refine Br.pt (by omega) ?_|refine Br.pf (by omega) ?_|refine CallS.q (compare _ _) rfl ?_|refine Ob.mk (by omega) ?_|refine Ob.mk (by unfold W.I64 at *;omega) ?_|refine Ix.nat _ ?_|refine FinAt.val rfl ?_);conv=>whnf)|((refine Br.n (fun h=>?_) (fun h=>?_))<;>conv=>whnf))
   ·exact eqI (by rw [h3,e,if_pos (by assumption)])
   ·exact⟨k+1,⟨by omega,by omega,by rw [h3,e,if_neg (by rw [h];simp)]⟩,by omega,(by trivial),(by trivial),(by trivial)⟩
  ·conv=>whnf
   repeat' ((first|refine Br.pt (by omega) ?_|refine Ob.mk (by omega) ?_|refine Ix.nat _ ?_|refine FinAt.val rfl ?_);conv=>whnf)
   obtain rfl:k=y.length:=by omega
   exact eqI (by rw [h3,drop_cons hlt,List.drop_length];rfl)
 ·obtain rfl:k=x.length:=by omega
  by_cases hlt2:x.length<y.length
  ·conv=>whnf
   repeat' ((first|refine Br.pt (by omega) ?_|refine Br.pf (by omega) ?_|refine FinAt.val rfl ?_);conv=>whnf)
   exact eqI (by rw [h3,drop_cons hlt2,List.drop_length];rfl)
  ·conv=>whnf
   repeat' ((first|refine Br.pf (by omega) ?_|refine FinAt.val rfl ?_);conv=>whnf)
   exact eqI (by rw [h3,List.drop_length,show x.length=y.length by omega,List.drop_length];rfl)
theorem orC(x y:Int):Ret Tryz.prog 198 [.lst 1 2 fun i=>[I ([x,y].getD i 0)]] (·=I (if x≠0 then x else y)):=by
 refine enterO tabOk (N:=18) (gs:=[]) (args:=[_]) Tryz.func198 rfl rfl rfl (nLe rfl) (fun E hE=>?_)
 conv=>whnf
 refine LoopAt.rule tabOk [(3,_),(6,_),(7,_)] (fun (k:Nat)=>[(8,.int .i64 (k:Int))]) (fun (k:Nat)=>[]) (fun (k:Nat)=>k≤2∧(0<k→x=0)∧(1<k→y=0)) (fun (k:Nat)=>2-k) 0 (by trivial) ⟨Nat.zero_le _,by omega,by omega⟩ (by trivial) (by trivial) (fun _=>⟨rfl,rfl,rfl,by simp [hE]⟩) (fun k hk=>?_)
 obtain⟨h1,h2,h3⟩:=hk
 obtain rfl|rfl|rfl:k=0∨k=1∨k=2:=by omega
 ·conv=>whnf
  repeat' (first|((first|refine Br.pt (by omega) ?_|refine Ob.mk (by omega) ?_|refine Ob.mk (by unfold W.I64 at *;omega) ?_|refine Ix.of 0 rfl ?_|refine FinAt.val rfl ?_);conv=>whnf)|((refine Br.n (fun h=>?_) (fun h=>?_))<;>conv=>whnf))
  ·exact eqI (by rw [if_pos (by assumption)];rfl)
  ·exact⟨1,⟨by omega,fun _=>h,by omega⟩,by omega,(by trivial),(by trivial),(by trivial)⟩
 ·have hx:=h2 (by omega)
  subst hx
  conv=>whnf
  repeat' (first|((first|refine Br.pt (by omega) ?_|refine Ob.mk (by omega) ?_|refine Ob.mk (by unfold W.I64 at *;omega) ?_|refine Ix.of 1 rfl ?_|refine FinAt.val rfl ?_);conv=>whnf)|((refine Br.n (fun h=>?_) (fun h=>?_))<;>conv=>whnf))
  ·rfl
  ·exact⟨2,⟨by omega,fun _=>rfl,fun _=>h⟩,by omega,(by trivial),(by trivial),(by trivial)⟩
 ·have hx:=h2 (by omega)
  have hy:=h3 (by omega)
  subst hx
  subst hy
  conv=>whnf
  repeat' ((first|refine Br.nf (by assumption) ?_|refine FinAt.val rfl ?_);conv=>whnf)
  rfl
def s12(r:W.Rt):List Int:=[r.seg.getD 0 0,r.seg.getD 1 0,r.seg.getD 2 0,r.seg.getD 3 0,r.seg.getD 4 0,r.seg.getD 5 0,r.seg.getD 6 0,r.seg.getD 7 0,r.seg.getD 8 0,r.seg.getD 9 0,r.seg.getD 10 0,r.seg.getD 11 0]
def rtF(a b:W.Rt):Int:=if W.cmpL (s12 a) (s12 b)≠0 then W.cmpL (s12 a) (s12 b) else W.cmpI a.n b.n
theorem rvSeg{own:Ow}{I:List Nat}{i:Nat}{r:W.Rt}(hi:i∈I)(hb:nth own i=some (.blk (rtC r))):Rv own I (.sl i 1 1 12 12) (isV (s12 r)):=by
 refine Rv.sl hi hb (by omega) (fun j hj=>⟨by show 1+(j+1)*1≤13;omega,?_⟩)
 rcases(show j=0∨j=1∨j=2∨j=3∨j=4∨j=5∨j=6∨j=7∨j=8∨j=9∨j=10∨j=11 by omega) with rfl|rfl|rfl|rfl|rfl|rfl|rfl|rfl|rfl|rfl|rfl|rfl<;>exact RvL.pu rfl
theorem orderC(a b:W.Rt):Ret Tryz.prog 184 [rtV a,rtV b] (·=I (rtF a b)):=by
 refine enterO tabOk (N:=17) (gs:=[]) (args:=[_,_]) Tryz.func184 rfl rfl rfl (nLe rfl) (fun E hE=>?_)
 conv=>whnf
 repeat' ((first|refine CallX.of [0,1] (RvL.cons (rvSeg (by simp) rfl) (RvL.cons (rvSeg (by simp) rfl) RvL.nil)) (by repeat (first|exact Als.nil _|refine Als.cons rfl rfl ?_)) (compareL (s12 a) (s12 b) (nLe rfl) (nLe rfl)) rfl ?_|refine CallX.pu (compare _ _) rfl rfl ?_|refine Ob.mk (by simp only [Option.getD_some,Option.getD_none];omega) ?_|refine Drw.loose (by kernel_rfl) ?_|refine BsN.mark ?_);conv=>whnf)
 refine CallS.call (CallN.retE [2] (RvL.cons (Rv.sl (by simp) rfl (nLe rfl |> fun h=>⟨h,nLe rfl⟩) (fun j hj=>?_)) RvL.nil) (by repeat (first|exact Als.nil _|refine Als.cons rfl rfl ?_)) (by simp [hE]) (orC (W.cmpL (s12 a) (s12 b)) (W.cmpI a.n b.n)) ?_)
 ·obtain rfl|rfl:j=0∨j=1:=by omega
  ·exact⟨nLe rfl,RvL.pu rfl⟩
  ·exact⟨nLe rfl,RvL.pu rfl⟩
 ·conv=>whnf
  repeat' ((refine FinAt.val rfl ?_);conv=>whnf)
  rfl
abbrev cmpV:AV:=.fn 184 [] []
theorem okArR{l:List W.Rt}{r:List Value}{k:Nat}:okO k [.blk (ar rtC l r)]=true:=by simp [okO,okL1_ar k (e:=rtC) (fun x=>rfl)]
theorem okArR2{l:List W.Rt}{r:List Value}{k:Nat}{v:AV}(h:ok1 k v=true):okO k [.blk (ar rtC l r),.blk [v]]=true:=by simp [okO,okL1_ar k (e:=rtC) (fun x=>rfl),okL1,h]
theorem insertC(l:List W.Rt)(r:List Value)(n c:Nat)(x y:Int)(hn:l.length=n)(h0:0≤x)(hab:x≤y)(hb:y≤n)(hc:n≤1000000) :
  SortC rtC 13 205 n c l r [I x,I y,cmpV] (·=.tup []):=by
 obtain⟨a,rfl⟩:=Int.eq_ofNat_of_zero_le h0
 obtain⟨b,rfl⟩:=Int.eq_ofNat_of_zero_le (show 0≤y by omega)
 refine enterO tabOk (N:=53) (gs:=[_]) (args:=[_,_,_,_]) Tryz.func205 rfl rfl rfl (nLe rfl) (fun E hE=>?_)
 conv=>whnf
 repeat' ((refine Ob.mk (by unfold W.I64 at *;omega) ?_);conv=>whnf)
 refine LoopAt.rule tabOk [(0,_),(1,_),(2,_),(3,_)] (fun (i:Nat×List W.Rt)=>[(8,.int .i64 (i.1:Int))]) (fun (i:Nat×List W.Rt)=>[.blk (ar rtC i.2 r)]) (fun (i:Nat×List W.Rt)=>i.2.Perm l∧a<i.1∧i.1≤b+1) (fun (i:Nat×List W.Rt)=>b+1-i.1) (a+1,l) (by (repeat refine And.intro (by first|rfl|exact congrArg (fun z=>some (AV.int .i64 z)) (by first|omega|(dsimp only;omega))) ?_);exact trivial) ⟨.refl _,by omega,by dsimp only;omega⟩ (by (repeat refine And.intro (by first|rfl|exact congrArg (fun z=>some (AV.int .i64 z)) (by first|omega|(dsimp only;omega))) ?_);exact trivial) (by (repeat refine And.intro (by first|rfl|exact congrArg (fun z=>some (AV.int .i64 z)) (by first|omega|(dsimp only;omega))) ?_);exact trivial) (fun _=>⟨rfl,rfl,okArR,by simp [hE]⟩) (fun i hk=>?_)
 obtain⟨i,l1⟩:=i
 obtain⟨hp,hi,hi2⟩:=hk
 dsimp only at hp hi hi2 ⊢
 by_cases hlt:i<b
 ·conv=>whnf
  repeat' ((refine Br.pt (by omega) ?_);conv=>whnf)
  refine LoopAt.rule tabOk [(0,_),(1,_),(2,_),(8,_),(3,_)] (fun (j:Nat×List W.Rt)=>[(9,.int .i64 (j.1:Int))]) (fun (j:Nat×List W.Rt)=>[.blk (ar rtC j.2 r)]) (fun (j:Nat×List W.Rt)=>j.2.Perm l∧a≤j.1∧j.1≤i) (fun (j:Nat×List W.Rt)=>j.1) (i,l1) (by (repeat refine And.intro (by first|rfl|exact congrArg (fun z=>some (AV.int .i64 z)) (by first|omega|(dsimp only;omega))) ?_);exact trivial) ⟨hp,by dsimp only;omega,Nat.le_refl _⟩ (by (repeat refine And.intro (by first|rfl|exact congrArg (fun z=>some (AV.int .i64 z)) (by first|omega|(dsimp only;omega))) ?_);exact trivial) (by (repeat refine And.intro (by first|rfl|exact congrArg (fun z=>some (AV.int .i64 z)) (by first|omega|(dsimp only;omega))) ?_);exact trivial) (fun _=>⟨rfl,rfl,okArR,by simp [hE]⟩) (fun j hk=>?_)
  obtain⟨j,l2⟩:=j
  obtain⟨hp2,hj,hj2⟩:=hk
  dsimp only at hp2 hj hj2 ⊢
  have hl2:=hp2.length_eq
  conv=>whnf
  repeat' (first|((first|with_reducible refine Ix.nat _ ?_|refine Ix.tn (by omega) ?_|refine Pc.sym ?_|refine LdAt.row (e:=rtC) (n:=13) (fun _=>rfl) ⟨0,[]⟩ rfl _ (Nat.zero_add _) (by omega) ?_|refine StAt.el (e:=rtC) (n:=13) (fun _=>rfl) _ rfl rfl _ (Nat.zero_add _) (by first|omega|(simp only [List.length_set];omega)) ?_|(refine Drw.len 18 15 rfl rfl ?_;refine Drw.lateP tabOk [0,1,5,6,7,8,9,10,11,12,13,14] [2,3,4] [15,16,17] (by kernel_rfl) (by kernel_rfl) ?_)|refine Br.pt (by assumption) ?_|refine Br.pf (by assumption) ?_|refine Br.of rfl ?_|refine CallX.pu (orderC _ _) rfl rfl ?_|refine Ob.mk (by omega) ?_|refine Ob.mk (by unfold W.I64 at *;omega) ?_|refine Drw.loose (by kernel_rfl) ?_);conv=>whnf)|((refine Br.d (fun h=>?_) (fun h=>?_))<;>conv=>whnf))
  ·refine⟨(j-1,_),⟨?_,?_,?_⟩,?_,(by (repeat refine And.intro (by first|rfl|exact congrArg (fun z=>some (AV.int .i64 z)) (by first|omega|(dsimp only;omega))) ?_);exact trivial),(by trivial),(by trivial)⟩
   ·exact(swap_perm (W.Rt.mk 0 []) (by omega) (by omega)).trans hp2
   all_goals dsimp only;omega
  all_goals
   refine⟨(i+1,l2),⟨hp2,?_,?_⟩,?_,(by trivial),(by trivial),(by trivial)⟩
   all_goals dsimp only;omega
 ·conv=>whnf
  repeat' ((refine Br.pf (by omega) ?_);conv=>whnf)
  refine FinAt.asis (ars:=[]) [] RvL.nil (by simp) (by show 1≤_;simp) okArR ⟨rfl,l1,hp,rfl⟩
theorem siftC(l:List W.Rt)(r:List Value)(n c:Nat)(x y z:Int)(hn:l.length=n)(h0:0≤x)(hlo:x≤y)(h1:0≤z)(hb:z+y≤n)(hc:n≤1000000) :
  SortC rtC 13 220 n c l r [I x,I y,I z,cmpV] (·=.tup []):=by
 obtain⟨lo,rfl⟩:=Int.eq_ofNat_of_zero_le h0
 obtain⟨hi,rfl⟩:=Int.eq_ofNat_of_zero_le (show 0≤y by omega)
 obtain⟨first,rfl⟩:=Int.eq_ofNat_of_zero_le h1
 refine enterO tabOk (N:=82) (gs:=[_]) (args:=[_,_,_,_,_]) Tryz.func220 rfl rfl rfl (nLe rfl) (fun E hE=>?_)
 conv=>whnf
 refine LoopAt.rule tabOk [(0,_),(2,_),(3,_),(4,_)] (fun (q:Nat×List W.Rt)=>[(10,.int .i64 (q.1:Int))]) (fun (q:Nat×List W.Rt)=>[.blk (ar rtC q.2 r)]) (fun (q:Nat×List W.Rt)=>q.2.Perm l∧q.1≤hi) (fun (q:Nat×List W.Rt)=>hi-q.1) (lo,l) (by (repeat refine And.intro (by first|rfl|exact congrArg (fun z=>some (AV.int .i64 z)) (by first|omega|(dsimp only;omega))) ?_);exact trivial) ⟨.refl _,by dsimp only;omega⟩ (by (repeat refine And.intro (by first|rfl|exact congrArg (fun z=>some (AV.int .i64 z)) (by first|omega|(dsimp only;omega))) ?_);exact trivial) (by (repeat refine And.intro (by first|rfl|exact congrArg (fun z=>some (AV.int .i64 z)) (by first|omega|(dsimp only;omega))) ?_);exact trivial) (fun _=>⟨rfl,rfl,okArR,by simp [hE]⟩) (fun q hk=>?_)
 obtain⟨q,l1⟩:=q
 obtain⟨hp,hq⟩:=hk
 dsimp only at hp hq ⊢
 have hl1:=hp.length_eq
 conv=>whnf
 repeat' (first|((first|refine Ix.tn (by omega) ?_|refine Pc.sym ?_|refine LdAt.row (e:=rtC) (n:=13) (fun _=>rfl) ⟨0,[]⟩ rfl _ (Nat.zero_add _) (by omega) ?_|refine StAt.el (e:=rtC) (n:=13) (fun _=>rfl) _ rfl rfl _ (Nat.zero_add _) (by first|omega|(simp only [List.length_set];omega)) ?_|(refine Drw.len 24 21 rfl rfl ?_;refine Drw.lateP tabOk [0,1,2,3,8,9,10,11,12,13,14,15,16,17,18,19,20] [4,5,6,7] [21,22,23] (by kernel_rfl) (by kernel_rfl) ?_)|refine Br.pt (by assumption) ?_|refine Br.pf (by assumption) ?_|refine Br.of rfl ?_|refine CallX.pu (orderC _ _) rfl rfl ?_|refine Ob.mk (by omega) ?_|refine Ob.mk (by unfold W.I64 at *;omega) ?_|refine Drw.loose (by kernel_rfl) ?_);conv=>whnf)|((first|refine Br.d (fun h=>?_) (fun h=>?_)|refine Br.n (fun h=>?_) (fun h=>?_))<;>conv=>whnf))
 all_goals try exact FinAt.asis (ars:=[]) [] RvL.nil (by simp) (by show 1≤_;simp) okArR ⟨rfl,l1,hp,rfl⟩
 ·refine⟨(2*q+1+1,_),⟨?_,by dsimp only;omega⟩,by dsimp only;omega,(by (repeat refine And.intro (by first|rfl|exact congrArg (fun z=>some (AV.int .i64 z)) (by first|omega|(dsimp only;omega))) ?_);exact trivial),(by trivial),(by trivial)⟩
  exact(swap_perm (W.Rt.mk 0 []) (by omega) (by omega)).trans hp
 all_goals
  refine⟨(2*q+1,_),⟨?_,by dsimp only;omega⟩,by dsimp only;omega,(by (repeat refine And.intro (by first|rfl|exact congrArg (fun z=>some (AV.int .i64 z)) (by first|omega|(dsimp only;omega))) ?_);exact trivial),(by trivial),(by trivial)⟩
  exact(swap_perm (W.Rt.mk 0 []) (by omega) (by omega)).trans hp
theorem revC(l:List W.Rt)(r:List Value)(n c:Nat)(x y:Int)(hn:l.length=n)(h0:0≤x)(hab:x<y)(hb:y≤n)(hc:n≤1000000) :
  SortC rtC 13 209 n c l r [I x,I y,cmpV] (·=.tup []):=by
 obtain⟨a,rfl⟩:=Int.eq_ofNat_of_zero_le h0
 obtain⟨b,rfl⟩:=Int.eq_ofNat_of_zero_le (show 0≤y by omega)
 refine enterO tabOk (N:=34) (gs:=[_]) (args:=[_,_,_,_]) Tryz.func209 rfl rfl rfl (nLe rfl) (fun E hE=>?_)
 conv=>whnf
 repeat' ((refine Ob.mk (by unfold W.I64 at *;omega) ?_);conv=>whnf)
 refine LoopAt.rule tabOk [(0,_)] (fun (q:Nat×Nat×List W.Rt)=>[(8,.int .i64 (q.1:Int)),(9,.int .i64 (q.2.1:Int))]) (fun (q:Nat×Nat×List W.Rt)=>[.blk (ar rtC q.2.2 r)]) (fun (q:Nat×Nat×List W.Rt)=>q.2.2.Perm l∧q.1≤n∧q.2.1<n) (fun (q:Nat×Nat×List W.Rt)=>q.2.1) (a,b-1,l) (by (repeat refine And.intro (by first|rfl|exact congrArg (fun z=>some (AV.int .i64 z)) (by first|omega|(dsimp only;omega))) ?_);exact trivial) ⟨.refl _,by omega,by dsimp only;omega⟩ (by (repeat refine And.intro (by first|rfl|exact congrArg (fun z=>some (AV.int .i64 z)) (by first|omega|(dsimp only;omega))) ?_);exact trivial) (by (repeat refine And.intro (by first|rfl|exact congrArg (fun z=>some (AV.int .i64 z)) (by first|omega|(dsimp only;omega))) ?_);exact trivial) (fun _=>⟨rfl,rfl,okArR,by simp [hE]⟩) (fun q hk=>?_)
 obtain⟨q,p,l1⟩:=q
 obtain⟨hp,hq,hq2⟩:=hk
 dsimp only at hp hq hq2 ⊢
 have hl1:=hp.length_eq
 conv=>whnf
 repeat' (first|((first|with_reducible refine Ix.nat _ ?_|refine Pc.sym ?_|refine LdAt.row (e:=rtC) (n:=13) (fun _=>rfl) ⟨0,[]⟩ rfl _ (Nat.zero_add _) (by omega) ?_|refine StAt.el (e:=rtC) (n:=13) (fun _=>rfl) _ rfl rfl _ (Nat.zero_add _) (by first|omega|(simp only [List.length_set];omega)) ?_|(refine Drw.len 16 13 rfl rfl ?_;refine Drw.lateP tabOk [0,1,4,5,6,7,8,9,10,11,12] [2,3] [13,14,15] (by kernel_rfl) (by kernel_rfl) ?_)|refine Ob.mk (by omega) ?_|refine Ob.mk (by unfold W.I64 at *;omega) ?_);conv=>whnf)|((refine Br.d (fun h=>?_) (fun h=>?_))<;>conv=>whnf))
 ·refine⟨(q+1,p-1,_),⟨?_,by dsimp only;omega,by dsimp only;omega⟩,by dsimp only;omega,(by (repeat refine And.intro (by first|rfl|exact congrArg (fun z=>some (AV.int .i64 z)) (by first|omega|(dsimp only;omega))) ?_);exact trivial),(by trivial),(by trivial)⟩
  exact(swap_perm (W.Rt.mk 0 []) (by omega) (by omega)).trans hp
 ·exact FinAt.asis (ars:=[]) [] RvL.nil (by simp) (by show 1≤_;simp) okArR ⟨rfl,l1,hp,rfl⟩
theorem heapC(l:List W.Rt)(r:List Value)(n c:Nat)(x y:Int)(hn:l.length=n)(h0:0≤x)(hab:x<y)(hb:y≤n)(hc:n≤1000000) :
  SortC rtC 13 206 n c l r [I x,I y,cmpV] (·=.tup []):=by
 obtain⟨a,rfl⟩:=Int.eq_ofNat_of_zero_le h0
 obtain⟨b,rfl⟩:=Int.eq_ofNat_of_zero_le (show 0≤y by omega)
 refine enterO tabOk (N:=60) (gs:=[_]) (args:=[_,_,_,_]) Tryz.func206 rfl rfl rfl (nLe rfl) (fun E hE=>?_)
 conv=>whnf
 repeat' ((refine Ob.mk (by unfold W.I64 at *;omega) ?_);conv=>whnf)
 refine LoopAt.rule tabOk [(0,_),(8,_),(9,_),(10,_),(3,_)] (fun (q:Nat×List W.Rt)=>[(11,.int .i64 ((q.1:Int)-1))]) (fun (q:Nat×List W.Rt)=>[.blk (ar rtC q.2 r)]) (fun (q:Nat×List W.Rt)=>q.2.Perm l∧q.1≤b-a) (fun (q:Nat×List W.Rt)=>q.1) ((b-a-1)/2+1,l) (by (repeat refine And.intro (by first|rfl|exact congrArg (fun z=>some (AV.int .i64 z)) (by first|omega|(dsimp only;omega))) ?_);exact trivial) ⟨.refl _,by dsimp only;omega⟩ (by (repeat refine And.intro (by first|rfl|exact congrArg (fun z=>some (AV.int .i64 z)) (by first|omega|(dsimp only;omega))) ?_);exact trivial) (by (repeat refine And.intro (by first|rfl|exact congrArg (fun z=>some (AV.int .i64 z)) (by first|omega|(dsimp only;omega))) ?_);exact trivial) (fun _=>⟨rfl,rfl,okArR,by simp [hE]⟩) (fun q hk=>?_)
 obtain⟨q,l1⟩:=q
 obtain⟨hp,hq⟩:=hk
 dsimp only at hp hq ⊢
 have hl1:=hp.length_eq
 conv=>whnf
 repeat' (first|((refine Ob.mk (by unfold W.I64 at *;omega) ?_);conv=>whnf)|((refine Br.d (fun h=>?_) (fun h=>?_))<;>conv=>whnf))
 ·refine CallS.srt (siftC l1 r n c _ _ _ (by omega) (by omega) (by omega) (by omega) (by omega) hc) rfl (fun _=>rfl) (fun _=>rfl) (fun x l' hx hp'=>?_)
  subst hx
  conv=>whnf
  repeat' ((refine Ob.mk (by unfold W.I64 at *;omega) ?_);conv=>whnf)
  exact⟨(q-1,l'),⟨hp'.trans hp,by dsimp only;omega⟩,by dsimp only;omega,(by (repeat refine And.intro (by first|rfl|exact congrArg (fun z=>some (AV.int .i64 z)) (by first|omega|(dsimp only;omega))) ?_);exact trivial),(by trivial),(by trivial)⟩
 ·refine LoopAt.rule tabOk [(0,_),(8,_),(9,_),(3,_)] (fun (q:Nat×List W.Rt)=>[(12,.int .i64 ((q.1:Int)-1))]) (fun (q:Nat×List W.Rt)=>[.blk (ar rtC q.2 r)]) (fun (q:Nat×List W.Rt)=>q.2.Perm l∧q.1≤b-a) (fun (q:Nat×List W.Rt)=>q.1) (b-a,l1) (by (repeat refine And.intro (by first|rfl|exact congrArg (fun z=>some (AV.int .i64 z)) (by first|omega|(dsimp only;omega))) ?_);exact trivial) ⟨hp,by dsimp only;omega⟩ (by (repeat refine And.intro (by first|rfl|exact congrArg (fun z=>some (AV.int .i64 z)) (by first|omega|(dsimp only;omega))) ?_);exact trivial) (by (repeat refine And.intro (by first|rfl|exact congrArg (fun z=>some (AV.int .i64 z)) (by first|omega|(dsimp only;omega))) ?_);exact trivial) (fun _=>⟨rfl,rfl,okArR,by simp [hE]⟩) (fun q hk=>?_)
  obtain⟨q,l2⟩:=q
  obtain⟨hp2,hq⟩:=hk
  dsimp only at hp2 hq ⊢
  have hl2:=hp2.length_eq
  conv=>whnf
  repeat' (first|((first|with_reducible refine Ix.nat _ ?_|refine Ix.tn (by omega) ?_|refine Pc.sym ?_|refine LdAt.row (e:=rtC) (n:=13) (fun _=>rfl) ⟨0,[]⟩ rfl _ (Nat.zero_add _) (by omega) ?_|refine StAt.el (e:=rtC) (n:=13) (fun _=>rfl) _ rfl rfl _ (Nat.zero_add _) (by first|omega|(simp only [List.length_set];omega)) ?_|(refine Drw.len 20 17 rfl rfl ?_;refine Drw.lateP tabOk [0,1,6,7,8,9,10,11,12,13,14,15,16] [2,3,4,5] [17,18,19] (by kernel_rfl) (by kernel_rfl) ?_)|refine Ob.mk (by omega) ?_|refine Ob.mk (by unfold W.I64 at *;omega) ?_);conv=>whnf)|((refine Br.d (fun h=>?_) (fun h=>?_))<;>conv=>whnf))
  ·refine CallS.srt (siftC _ r n c _ _ _ (by rw [List.length_set,List.length_set];omega) (by omega) (by omega) (by omega) (by omega) hc) rfl (fun _=>rfl) (fun _=>rfl) (fun x l' hx hp'=>?_)
   subst hx
   conv=>whnf
   repeat' ((refine Ob.mk (by unfold W.I64 at *;omega) ?_);conv=>whnf)
   refine⟨(q-1,l'),⟨?_,by dsimp only;omega⟩,by dsimp only;omega,(by (repeat refine And.intro (by first|rfl|exact congrArg (fun z=>some (AV.int .i64 z)) (by first|omega|(dsimp only;omega))) ?_);exact trivial),(by trivial),(by trivial)⟩
   exact hp'.trans ((swap_perm (W.Rt.mk 0 []) (by omega) (by omega)).trans hp2)
  ·exact FinAt.asis (ars:=[]) [] RvL.nil (by simp) (by show 1≤_;simp) okArR ⟨rfl,l2,hp2,rfl⟩
theorem partC(l:List W.Rt)(r:List Value)(n c:Nat)(x y z:Int)(hn:l.length=n)(h0:0≤x)(hz:x≤z)(hz2:z<y)(hb:y≤n)(hc:n≤1000000) :
  SortC rtC 13 212 n c l r [I x,I y,I z,cmpV] (PivIs x y):=by
 obtain⟨a,rfl⟩:=Int.eq_ofNat_of_zero_le h0
 obtain⟨b,rfl⟩:=Int.eq_ofNat_of_zero_le (show 0≤y by omega)
 obtain⟨p,rfl⟩:=Int.eq_ofNat_of_zero_le (show 0≤z by omega)
 refine enterO tabOk (N:=178) (gs:=[_]) (args:=[_,_,_,_,_]) Tryz.func212 rfl rfl rfl (nLe rfl) (fun E hE=>?_)
 conv=>whnf
 repeat' ((first|with_reducible refine Ix.nat _ ?_|refine Pc.sym ?_|refine LdAt.row (e:=rtC) (n:=13) (fun _=>rfl) ⟨0,[]⟩ rfl _ (Nat.zero_add _) (by omega) ?_|refine StAt.el (e:=rtC) (n:=13) (fun _=>rfl) _ rfl rfl _ (Nat.zero_add _) (by first|omega|(simp only [List.length_set];omega)) ?_|(refine Drw.len 16 13 rfl rfl ?_;refine Drw.lateP tabOk [0,1,4,5,6,7,8,9,10,11,12] [2,3] [13,14,15] (by kernel_rfl) (by kernel_rfl) ?_)|refine Ob.mk (by omega) ?_|refine Ob.mk (by unfold W.I64 at *;omega) ?_);conv=>whnf)
 refine LoopAt.rule tabOk [(0,_),(1,_),(13,_),(4,_)] (fun (q:Nat×List W.Rt)=>[(12,.int .i64 (q.1:Int))]) (fun (q:Nat×List W.Rt)=>[.blk (ar rtC q.2 r)]) (fun (q:Nat×List W.Rt)=>q.2.Perm l∧a+1≤q.1∧q.1≤b) (fun (q:Nat×List W.Rt)=>b-q.1) (a+1,_) (by (repeat refine And.intro (by first|rfl|exact congrArg (fun z=>some (AV.int .i64 z)) (by first|omega|(dsimp only;omega))) ?_);exact trivial) ?_ (by (repeat refine And.intro (by first|rfl|exact congrArg (fun z=>some (AV.int .i64 z)) (by first|omega|(dsimp only;omega))) ?_);exact trivial) (by (repeat refine And.intro (by first|rfl|exact congrArg (fun z=>some (AV.int .i64 z)) (by first|omega|(dsimp only;omega))) ?_);exact trivial) (fun _=>⟨rfl,rfl,okArR,by simp [hE]⟩) (fun q hk=>?_)
 ·exact⟨swap_perm (W.Rt.mk 0 []) (by omega) (by omega),by dsimp only;omega,by dsimp only;omega⟩
 obtain⟨i,l1⟩:=q
 obtain⟨hp,hi,hi2⟩:=hk
 dsimp only at hp hi hi2 ⊢
 have hl1:=hp.length_eq
 conv=>whnf
 repeat' (first|((first|with_reducible refine Ix.nat _ ?_|refine Pc.sym ?_|refine LdAt.row (e:=rtC) (n:=13) (fun _=>rfl) ⟨0,[]⟩ rfl _ (Nat.zero_add _) (by omega) ?_|refine Br.pt (by assumption) ?_|refine Br.pf (by assumption) ?_|refine Br.of rfl ?_|refine CallX.pu (orderC _ _) rfl rfl ?_|refine Ob.mk (by omega) ?_|refine Ob.mk (by unfold W.I64 at *;omega) ?_|refine Drw.loose (by kernel_rfl) ?_);conv=>whnf)|((refine Br.d (fun h=>?_) (fun h=>?_))<;>conv=>whnf))
 ·exact⟨(i+1,l1),⟨hp,by dsimp only;omega,by dsimp only;omega⟩,by dsimp only;omega,(by (repeat refine And.intro (by first|rfl|exact congrArg (fun z=>some (AV.int .i64 z)) (by first|omega|(dsimp only;omega))) ?_);exact trivial),(by trivial),(by trivial)⟩
 all_goals
  refine LoopAt.rule tabOk [(0,_),(1,_),(12,_),(4,_)] (fun (q:Nat×List W.Rt)=>[(13,.int .i64 (q.1:Int))]) (fun (q:Nat×List W.Rt)=>[.blk (ar rtC q.2 r)]) (fun (q:Nat×List W.Rt)=>q.2.Perm l∧a≤q.1∧q.1<b) (fun (q:Nat×List W.Rt)=>q.1) (b-1,l1) (by (repeat refine And.intro (by first|rfl|exact congrArg (fun z=>some (AV.int .i64 z)) (by first|omega|(dsimp only;omega))) ?_);exact trivial) ⟨hp,by dsimp only;omega,by dsimp only;omega⟩ (by (repeat refine And.intro (by first|rfl|exact congrArg (fun z=>some (AV.int .i64 z)) (by first|omega|(dsimp only;omega))) ?_);exact trivial) (by (repeat refine And.intro (by first|rfl|exact congrArg (fun z=>some (AV.int .i64 z)) (by first|omega|(dsimp only;omega))) ?_);exact trivial) (fun _=>⟨rfl,rfl,okArR,by simp [hE]⟩) (fun q hk=>?_)
  obtain⟨j,l2⟩:=q
  obtain⟨hp2,hj,hj2⟩:=hk
  dsimp only at hp2 hj hj2 ⊢
  have hl2:=hp2.length_eq
  conv=>whnf
  repeat' (first|((first|with_reducible refine Ix.nat _ ?_|refine Pc.sym ?_|refine LdAt.row (e:=rtC) (n:=13) (fun _=>rfl) ⟨0,[]⟩ rfl _ (Nat.zero_add _) (by omega) ?_|refine StAt.el (e:=rtC) (n:=13) (fun _=>rfl) _ rfl rfl _ (Nat.zero_add _) (by first|omega|(simp only [List.length_set];omega)) ?_|(refine Drw.len 16 13 rfl rfl ?_;refine Drw.lateP tabOk [0,1,4,5,6,7,8,9,10,11,12] [2,3] [13,14,15] (by kernel_rfl) (by kernel_rfl) ?_)|refine Br.pt (by assumption) ?_|refine Br.pf (by assumption) ?_|refine Br.pt (by omega) ?_|refine Br.pf (by omega) ?_|refine Br.of rfl ?_|refine CallX.pu (orderC _ _) rfl rfl ?_|refine Ob.mk (by omega) ?_|refine Ob.mk (by unfold W.I64 at *;omega) ?_|refine Drw.loose (by kernel_rfl) ?_);conv=>whnf)|((first|refine Br.d (fun h=>?_) (fun h=>?_)|refine Br.n (fun h=>?_) (fun h=>?_))<;>conv=>whnf))
  all_goals try exact Exists.intro (j-1,l2) ⟨⟨hp2,by dsimp only;omega,by dsimp only;omega⟩,by dsimp only;omega,(by (repeat refine And.intro (by first|rfl|exact congrArg (fun z=>some (AV.int .i64 z)) (by first|omega|(dsimp only;omega))) ?_);exact trivial),(by trivial),(by trivial)⟩
  all_goals try refine FinAt.asis (ars:=[I _,.bool true]) [] (RvL.pu rfl) (by simp) (by show 1≤_;simp) okArR ⟨⟨j,true,rfl,by omega,by omega⟩,_,(swap_perm (W.Rt.mk 0 []) (by omega) (by omega)).trans hp2,rfl⟩
  all_goals
   refine LoopAt.rule tabOk [(0,_),(1,_),(4,_)] (fun (q:Nat×Nat×List W.Rt)=>[(12,.int .i64 (q.1:Int)),(13,.int .i64 (q.2.1:Int))]) (fun (q:Nat×Nat×List W.Rt)=>[.blk (ar rtC q.2.2 r)]) (fun (q:Nat×Nat×List W.Rt)=>q.2.2.Perm l∧a+1≤q.1∧q.1≤b∧a≤q.2.1∧q.2.1<b) (fun (q:Nat×Nat×List W.Rt)=>q.2.1) (i+1,j-1,_) (by (repeat refine And.intro (by first|rfl|exact congrArg (fun z=>some (AV.int .i64 z)) (by first|omega|(dsimp only;omega))) ?_);exact trivial) ?_ (by (repeat refine And.intro (by first|rfl|exact congrArg (fun z=>some (AV.int .i64 z)) (by first|omega|(dsimp only;omega))) ?_);exact trivial) (by (repeat refine And.intro (by first|rfl|exact congrArg (fun z=>some (AV.int .i64 z)) (by first|omega|(dsimp only;omega))) ?_);exact trivial) (fun _=>⟨rfl,rfl,okArR,by simp [hE]⟩) (fun q hk=>?_)
   ·exact⟨(swap_perm (W.Rt.mk 0 []) (by omega) (by omega)).trans hp2,by dsimp only;omega,by dsimp only;omega,by dsimp only;omega,by dsimp only;omega⟩
   obtain⟨i',j',l3⟩:=q
   obtain⟨hp3,hi',hi2',hj',hj2'⟩:=hk
   dsimp only at hp3 hi' hi2' hj' hj2' ⊢
   have hl3:=hp3.length_eq
   conv=>whnf
   refine LoopAt.rule tabOk [(0,_),(1,_),(13,_),(4,_)] (fun (q:Nat×List W.Rt)=>[(12,.int .i64 (q.1:Int))]) (fun (q:Nat×List W.Rt)=>[.blk (ar rtC q.2 r)]) (fun (q:Nat×List W.Rt)=>q.2.Perm l∧a+1≤q.1∧q.1≤b) (fun (q:Nat×List W.Rt)=>b-q.1) (i',l3) (by (repeat refine And.intro (by first|rfl|exact congrArg (fun z=>some (AV.int .i64 z)) (by first|omega|(dsimp only;omega))) ?_);exact trivial) ⟨hp3,hi',hi2'⟩ (by (repeat refine And.intro (by first|rfl|exact congrArg (fun z=>some (AV.int .i64 z)) (by first|omega|(dsimp only;omega))) ?_);exact trivial) (by (repeat refine And.intro (by first|rfl|exact congrArg (fun z=>some (AV.int .i64 z)) (by first|omega|(dsimp only;omega))) ?_);exact trivial) (fun _=>⟨rfl,rfl,okArR,by simp [hE]⟩) (fun q hk=>?_)
   obtain⟨i2,l4⟩:=q
   obtain⟨hp4,hi3,hi4⟩:=hk
   dsimp only at hp4 hi3 hi4 ⊢
   have hl4:=hp4.length_eq
   conv=>whnf
   repeat' (first|((first|with_reducible refine Ix.nat _ ?_|refine Pc.sym ?_|refine LdAt.row (e:=rtC) (n:=13) (fun _=>rfl) ⟨0,[]⟩ rfl _ (Nat.zero_add _) (by omega) ?_|refine Br.pt (by assumption) ?_|refine Br.pf (by assumption) ?_|refine Br.of rfl ?_|refine CallX.pu (orderC _ _) rfl rfl ?_|refine Ob.mk (by omega) ?_|refine Ob.mk (by unfold W.I64 at *;omega) ?_|refine Drw.loose (by kernel_rfl) ?_);conv=>whnf)|((refine Br.d (fun h=>?_) (fun h=>?_))<;>conv=>whnf))
   ·exact⟨(i2+1,l4),⟨hp4,by dsimp only;omega,by dsimp only;omega⟩,by dsimp only;omega,(by (repeat refine And.intro (by first|rfl|exact congrArg (fun z=>some (AV.int .i64 z)) (by first|omega|(dsimp only;omega))) ?_);exact trivial),(by trivial),(by trivial)⟩
   all_goals
    refine LoopAt.rule tabOk [(0,_),(1,_),(12,_),(4,_)] (fun (q:Nat×List W.Rt)=>[(13,.int .i64 (q.1:Int))]) (fun (q:Nat×List W.Rt)=>[.blk (ar rtC q.2 r)]) (fun (q:Nat×List W.Rt)=>q.2.Perm l∧a≤q.1∧q.1≤j') (fun (q:Nat×List W.Rt)=>q.1) (j',l4) (by (repeat refine And.intro (by first|rfl|exact congrArg (fun z=>some (AV.int .i64 z)) (by first|omega|(dsimp only;omega))) ?_);exact trivial) ⟨hp4,hj',Nat.le_refl _⟩ (by (repeat refine And.intro (by first|rfl|exact congrArg (fun z=>some (AV.int .i64 z)) (by first|omega|(dsimp only;omega))) ?_);exact trivial) (by (repeat refine And.intro (by first|rfl|exact congrArg (fun z=>some (AV.int .i64 z)) (by first|omega|(dsimp only;omega))) ?_);exact trivial) (fun _=>⟨rfl,rfl,okArR,by simp [hE]⟩) (fun q hk=>?_)
    obtain⟨j2,l5⟩:=q
    obtain⟨hp5,hj3,hj4⟩:=hk
    dsimp only at hp5 hj3 hj4 ⊢
    have hl5:=hp5.length_eq
    conv=>whnf
    repeat' (first|((first|with_reducible refine Ix.nat _ ?_|refine Pc.sym ?_|refine LdAt.row (e:=rtC) (n:=13) (fun _=>rfl) ⟨0,[]⟩ rfl _ (Nat.zero_add _) (by omega) ?_|refine StAt.el (e:=rtC) (n:=13) (fun _=>rfl) _ rfl rfl _ (Nat.zero_add _) (by first|omega|(simp only [List.length_set];omega)) ?_|(refine Drw.len 16 13 rfl rfl ?_;refine Drw.lateP tabOk [0,1,4,5,6,7,8,9,10,11,12] [2,3] [13,14,15] (by kernel_rfl) (by kernel_rfl) ?_)|refine Br.pt (by assumption) ?_|refine Br.pf (by assumption) ?_|refine Br.pt (by omega) ?_|refine Br.pf (by omega) ?_|refine Br.of rfl ?_|refine CallX.pu (orderC _ _) rfl rfl ?_|refine Ob.mk (by omega) ?_|refine Ob.mk (by unfold W.I64 at *;omega) ?_|refine Drw.loose (by kernel_rfl) ?_);conv=>whnf)|((first|refine Br.d (fun h=>?_) (fun h=>?_)|refine Br.n (fun h=>?_) (fun h=>?_))<;>conv=>whnf))
    all_goals try exact Exists.intro (j2-1,l5) ⟨⟨hp5,by dsimp only;omega,by dsimp only;omega⟩,by dsimp only;omega,(by (repeat refine And.intro (by first|rfl|exact congrArg (fun z=>some (AV.int .i64 z)) (by first|omega|(dsimp only;omega))) ?_);exact trivial),(by trivial),(by trivial)⟩
    all_goals try refine FinAt.asis (ars:=[I _,.bool false]) [] (RvL.pu rfl) (by simp) (by show 1≤_;simp) okArR ⟨⟨j2,false,rfl,by omega,by omega⟩,_,(swap_perm (W.Rt.mk 0 []) (by omega) (by omega)).trans hp5,rfl⟩
    all_goals
     refine⟨(i2+1,j2-1,_),⟨?_,by dsimp only;omega,by dsimp only;omega,by dsimp only;omega,by dsimp only;omega⟩,by dsimp only;omega,(by (repeat refine And.intro (by first|rfl|exact congrArg (fun z=>some (AV.int .i64 z)) (by first|omega|(dsimp only;omega))) ?_);exact trivial),(by trivial),(by trivial)⟩
     exact(swap_perm (W.Rt.mk 0 []) (by omega) (by omega)).trans hp5
theorem partEqC(l:List W.Rt)(r:List Value)(n c:Nat)(x y z:Int)(hn:l.length=n)(h0:0≤x)(hz:x≤z)(hz2:z<y)(hb:y≤n)(hc:n≤1000000) :
  SortC rtC 13 211 n c l r [I x,I y,I z,cmpV] (fun v=>∃ p,v=I p∧x<p∧p≤y):=by
 obtain⟨a,rfl⟩:=Int.eq_ofNat_of_zero_le h0
 obtain⟨b,rfl⟩:=Int.eq_ofNat_of_zero_le (show 0≤y by omega)
 obtain⟨p,rfl⟩:=Int.eq_ofNat_of_zero_le (show 0≤z by omega)
 refine enterO tabOk (N:=90) (gs:=[_]) (args:=[_,_,_,_,_]) Tryz.func211 rfl rfl rfl (nLe rfl) (fun E hE=>?_)
 conv=>whnf
 repeat' ((first|with_reducible refine Ix.nat _ ?_|refine Pc.sym ?_|refine LdAt.row (e:=rtC) (n:=13) (fun _=>rfl) ⟨0,[]⟩ rfl _ (Nat.zero_add _) (by omega) ?_|refine StAt.el (e:=rtC) (n:=13) (fun _=>rfl) _ rfl rfl _ (Nat.zero_add _) (by first|omega|(simp only [List.length_set];omega)) ?_|(refine Drw.len 16 13 rfl rfl ?_;refine Drw.lateP tabOk [0,1,4,5,6,7,8,9,10,11,12] [2,3] [13,14,15] (by kernel_rfl) (by kernel_rfl) ?_)|refine Ob.mk (by omega) ?_|refine Ob.mk (by unfold W.I64 at *;omega) ?_);conv=>whnf)
 refine LoopAt.rule tabOk [(0,_),(1,_),(4,_)] (fun (q:Nat×Nat×List W.Rt)=>[(11,.int .i64 (q.1:Int)),(12,.int .i64 (q.2.1:Int))]) (fun (q:Nat×Nat×List W.Rt)=>[.blk (ar rtC q.2.2 r)]) (fun (q:Nat×Nat×List W.Rt)=>q.2.2.Perm l∧a+1≤q.1∧q.1≤b∧a≤q.2.1∧q.2.1<b) (fun (q:Nat×Nat×List W.Rt)=>q.2.1) (a+1,b-1,_) (by (repeat refine And.intro (by first|rfl|exact congrArg (fun z=>some (AV.int .i64 z)) (by first|omega|(dsimp only;omega))) ?_);exact trivial) ?_ (by (repeat refine And.intro (by first|rfl|exact congrArg (fun z=>some (AV.int .i64 z)) (by first|omega|(dsimp only;omega))) ?_);exact trivial) (by (repeat refine And.intro (by first|rfl|exact congrArg (fun z=>some (AV.int .i64 z)) (by first|omega|(dsimp only;omega))) ?_);exact trivial) (fun _=>⟨rfl,rfl,okArR,by simp [hE]⟩) (fun q hk=>?_)
 ·exact⟨swap_perm (W.Rt.mk 0 []) (by omega) (by omega),by dsimp only;omega,by dsimp only;omega,by dsimp only;omega,by dsimp only;omega⟩
 obtain⟨i',j',l3⟩:=q
 obtain⟨hp3,hi',hi2',hj',hj2'⟩:=hk
 dsimp only at hp3 hi' hi2' hj' hj2' ⊢
 have hl3:=hp3.length_eq
 conv=>whnf
 refine LoopAt.rule tabOk [(0,_),(1,_),(12,_),(4,_)] (fun (q:Nat×List W.Rt)=>[(11,.int .i64 (q.1:Int))]) (fun (q:Nat×List W.Rt)=>[.blk (ar rtC q.2 r)]) (fun (q:Nat×List W.Rt)=>q.2.Perm l∧a+1≤q.1∧q.1≤b) (fun (q:Nat×List W.Rt)=>b-q.1) (i',l3) (by (repeat refine And.intro (by first|rfl|exact congrArg (fun z=>some (AV.int .i64 z)) (by first|omega|(dsimp only;omega))) ?_);exact trivial) ⟨hp3,hi',hi2'⟩ (by (repeat refine And.intro (by first|rfl|exact congrArg (fun z=>some (AV.int .i64 z)) (by first|omega|(dsimp only;omega))) ?_);exact trivial) (by (repeat refine And.intro (by first|rfl|exact congrArg (fun z=>some (AV.int .i64 z)) (by first|omega|(dsimp only;omega))) ?_);exact trivial) (fun _=>⟨rfl,rfl,okArR,by simp [hE]⟩) (fun q hk=>?_)
 obtain⟨i2,l4⟩:=q
 obtain⟨hp4,hi3,hi4⟩:=hk
 dsimp only at hp4 hi3 hi4 ⊢
 have hl4:=hp4.length_eq
 conv=>whnf
 repeat' (first|((first|with_reducible refine Ix.nat _ ?_|refine Pc.sym ?_|refine LdAt.row (e:=rtC) (n:=13) (fun _=>rfl) ⟨0,[]⟩ rfl _ (Nat.zero_add _) (by omega) ?_|refine Br.pt (by assumption) ?_|refine Br.pf (by assumption) ?_|refine Br.of rfl ?_|refine CallX.pu (orderC _ _) rfl rfl ?_|refine Ob.mk (by omega) ?_|refine Ob.mk (by unfold W.I64 at *;omega) ?_|refine Drw.loose (by kernel_rfl) ?_);conv=>whnf)|((first|refine Br.d (fun h=>?_) (fun h=>?_)|refine Br.n (fun h=>?_) (fun h=>?_))<;>conv=>whnf))
 all_goals try exact Exists.intro (i2+1,l4) ⟨⟨hp4,by dsimp only;omega,by dsimp only;omega⟩,by dsimp only;omega,(by (repeat refine And.intro (by first|rfl|exact congrArg (fun z=>some (AV.int .i64 z)) (by first|omega|(dsimp only;omega))) ?_);exact trivial),(by trivial),(by trivial)⟩
 all_goals
  refine LoopAt.rule tabOk [(0,_),(1,_),(11,_),(4,_)] (fun (q:Nat×List W.Rt)=>[(12,.int .i64 (q.1:Int))]) (fun (q:Nat×List W.Rt)=>[.blk (ar rtC q.2 r)]) (fun (q:Nat×List W.Rt)=>q.2.Perm l∧a≤q.1∧q.1≤j') (fun (q:Nat×List W.Rt)=>q.1) (j',l4) (by (repeat refine And.intro (by first|rfl|exact congrArg (fun z=>some (AV.int .i64 z)) (by first|omega|(dsimp only;omega))) ?_);exact trivial) ⟨hp4,hj',Nat.le_refl _⟩ (by (repeat refine And.intro (by first|rfl|exact congrArg (fun z=>some (AV.int .i64 z)) (by first|omega|(dsimp only;omega))) ?_);exact trivial) (by (repeat refine And.intro (by first|rfl|exact congrArg (fun z=>some (AV.int .i64 z)) (by first|omega|(dsimp only;omega))) ?_);exact trivial) (fun _=>⟨rfl,rfl,okArR,by simp [hE]⟩) (fun q hk=>?_)
  obtain⟨j2,l5⟩:=q
  obtain⟨hp5,hj3,hj4⟩:=hk
  dsimp only at hp5 hj3 hj4 ⊢
  have hl5:=hp5.length_eq
  conv=>whnf
  repeat' (first|((first|with_reducible refine Ix.nat _ ?_|refine Pc.sym ?_|refine LdAt.row (e:=rtC) (n:=13) (fun _=>rfl) ⟨0,[]⟩ rfl _ (Nat.zero_add _) (by omega) ?_|refine StAt.el (e:=rtC) (n:=13) (fun _=>rfl) _ rfl rfl _ (Nat.zero_add _) (by first|omega|(simp only [List.length_set];omega)) ?_|(refine Drw.len 16 13 rfl rfl ?_;refine Drw.lateP tabOk [0,1,4,5,6,7,8,9,10,11,12] [2,3] [13,14,15] (by kernel_rfl) (by kernel_rfl) ?_)|refine Br.pt (by assumption) ?_|refine Br.pf (by assumption) ?_|refine Br.pt (by omega) ?_|refine Br.pf (by omega) ?_|refine Br.of rfl ?_|refine CallX.pu (orderC _ _) rfl rfl ?_|refine Ob.mk (by omega) ?_|refine Ob.mk (by unfold W.I64 at *;omega) ?_|refine Drw.loose (by kernel_rfl) ?_);conv=>whnf)|((refine Br.d (fun h=>?_) (fun h=>?_))<;>conv=>whnf))
  all_goals try exact Exists.intro (j2-1,l5) ⟨⟨hp5,by dsimp only;omega,by dsimp only;omega⟩,by dsimp only;omega,(by (repeat refine And.intro (by first|rfl|exact congrArg (fun z=>some (AV.int .i64 z)) (by first|omega|(dsimp only;omega))) ?_);exact trivial),(by trivial),(by trivial)⟩
  all_goals try refine FinAt.asis (ars:=[I _]) [] (RvL.pu rfl) (by simp) (by show 1≤_;simp) okArR ⟨⟨i2,rfl,by omega,by omega⟩,_,hp5,rfl⟩
  all_goals
   refine⟨(i2+1,j2-1,_),⟨?_,by dsimp only;omega,by dsimp only;omega,by dsimp only;omega,by dsimp only;omega⟩,by dsimp only;omega,(by (repeat refine And.intro (by first|rfl|exact congrArg (fun z=>some (AV.int .i64 z)) (by first|omega|(dsimp only;omega))) ?_);exact trivial),(by trivial),(by trivial)⟩
   exact(swap_perm (W.Rt.mk 0 []) (by omega) (by omega)).trans hp5
theorem partInsC(l:List W.Rt)(r:List Value)(n c:Nat)(x y:Int)(hn:l.length=n)(h0:0≤x)(hz:x<y)(hb:y≤n)(hc:n≤1000000) :
  SortC rtC 13 210 n c l r [I x,I y,cmpV] (fun v=>∃ p,v=.bool p):=by
 obtain⟨a,rfl⟩:=Int.eq_ofNat_of_zero_le h0
 obtain⟨b,rfl⟩:=Int.eq_ofNat_of_zero_le (show 0≤y by omega)
 refine enterO tabOk (N:=141) (gs:=[_]) (args:=[_,_,_,_]) Tryz.func210 rfl rfl rfl (nLe rfl) (fun E hE=>?_)
 conv=>whnf
 repeat' ((refine Ob.mk (by unfold W.I64 at *;omega) ?_);conv=>whnf)
 refine LoopAt.rule tabOk [(0,_),(1,_),(2,_),(3,_)] (fun (q:Nat×Nat×List W.Rt)=>[(9,.int .i64 (q.1:Int)),(10,.int .i64 (q.2.1:Int))]) (fun (q:Nat×Nat×List W.Rt)=>[.blk (ar rtC q.2.2 r)]) (fun (q:Nat×Nat×List W.Rt)=>q.2.2.Perm l∧a+1≤q.1∧q.1≤b∧q.2.1≤5) (fun (q:Nat×Nat×List W.Rt)=>5-q.2.1) (a+1,0,l) (by (repeat refine And.intro (by first|rfl|exact congrArg (fun z=>some (AV.int .i64 z)) (by first|omega|(dsimp only;omega))) ?_);exact trivial) ⟨.refl _,by dsimp only;omega,by dsimp only;omega,by dsimp only;omega⟩ (by (repeat refine And.intro (by first|rfl|exact congrArg (fun z=>some (AV.int .i64 z)) (by first|omega|(dsimp only;omega))) ?_);exact trivial) (by (repeat refine And.intro (by first|rfl|exact congrArg (fun z=>some (AV.int .i64 z)) (by first|omega|(dsimp only;omega))) ?_);exact trivial) (fun _=>⟨rfl,rfl,okArR,by simp [hE]⟩) (fun q hk=>?_)
 obtain⟨i',j',l3⟩:=q
 obtain⟨hp3,hi',hi2',hj'⟩:=hk
 dsimp only at hp3 hi' hi2' hj' ⊢
 have hl3:=hp3.length_eq
 conv=>whnf
 repeat' ((refine Br.d (fun h=>?_) (fun h=>?_))<;>conv=>whnf)
 all_goals try refine FinAt.asis (ars:=[.bool _]) [] (RvL.pu rfl) (by simp) (by show 1≤_;simp) okArR ⟨⟨_,rfl⟩,_,hp3,rfl⟩
 refine LoopAt.rule tabOk [(0,_),(1,_),(2,_),(10,_),(3,_)] (fun (q:Nat×List W.Rt)=>[(9,.int .i64 (q.1:Int))]) (fun (q:Nat×List W.Rt)=>[.blk (ar rtC q.2 r)]) (fun (q:Nat×List W.Rt)=>q.2.Perm l∧a+1≤q.1∧q.1≤b) (fun (q:Nat×List W.Rt)=>b-q.1) (i',l3) (by (repeat refine And.intro (by first|rfl|exact congrArg (fun z=>some (AV.int .i64 z)) (by first|omega|(dsimp only;omega))) ?_);exact trivial) ⟨hp3,hi',hi2'⟩ (by (repeat refine And.intro (by first|rfl|exact congrArg (fun z=>some (AV.int .i64 z)) (by first|omega|(dsimp only;omega))) ?_);exact trivial) (by (repeat refine And.intro (by first|rfl|exact congrArg (fun z=>some (AV.int .i64 z)) (by first|omega|(dsimp only;omega))) ?_);exact trivial) (fun _=>⟨rfl,rfl,okArR,by simp [hE]⟩) (fun q hk=>?_)
 obtain⟨i2,l4⟩:=q
 obtain⟨hp4,hi3,hi4⟩:=hk
 dsimp only at hp4 hi3 hi4 ⊢
 have hl4:=hp4.length_eq
 conv=>whnf
 repeat' (first|((first|with_reducible refine Ix.nat _ ?_|refine Ix.tn (by omega) ?_|refine Pc.sym ?_|refine LdAt.row (e:=rtC) (n:=13) (fun _=>rfl) ⟨0,[]⟩ rfl _ (Nat.zero_add _) (by omega) ?_|refine StAt.el (e:=rtC) (n:=13) (fun _=>rfl) _ rfl rfl _ (Nat.zero_add _) (by first|omega|(simp only [List.length_set];omega)) ?_|(refine Drw.len 18 15 rfl rfl ?_;refine Drw.lateP tabOk [0,1,5,6,7,8,9,10,11,12,13,14] [2,3,4] [15,16,17] (by kernel_rfl) (by kernel_rfl) ?_)|refine Br.pt (by assumption) ?_|refine Br.pf (by assumption) ?_|refine Br.pt (by omega) ?_|refine Br.pf (by omega) ?_|refine Br.of rfl ?_|refine CallX.pu (orderC _ _) rfl rfl ?_|refine Ob.mk (by omega) ?_|refine Ob.mk (by unfold W.I64 at *;omega) ?_|refine Drw.loose (by kernel_rfl) ?_);conv=>whnf)|((first|refine Br.d (fun h=>?_) (fun h=>?_)|refine Br.n (fun h=>?_) (fun h=>?_))<;>conv=>whnf))
 all_goals try exact Exists.intro (i2+1,l4) ⟨⟨hp4,by dsimp only;omega,by dsimp only;omega⟩,by dsimp only;omega,(by (repeat refine And.intro (by first|rfl|exact congrArg (fun z=>some (AV.int .i64 z)) (by first|omega|(dsimp only;omega))) ?_);exact trivial),(by trivial),(by trivial)⟩
 all_goals try refine FinAt.asis (ars:=[.bool _]) [] (RvL.pu rfl) (by simp) (by show 1≤_;simp) okArR ⟨⟨_,rfl⟩,_,hp4,rfl⟩
 ·refine LoopAt.rule tabOk [(0,_),(1,_),(2,_),(9,_),(10,_),(3,_)] (fun (q:Nat×List W.Rt)=>[(11,.int .i64 (q.1:Int))]) (fun (q:Nat×List W.Rt)=>[.blk (ar rtC q.2 r)]) (fun (q:Nat×List W.Rt)=>q.2.Perm l∧q.1<i2) (fun (q:Nat×List W.Rt)=>q.1) (i2-1,_) (by (repeat refine And.intro (by first|rfl|exact congrArg (fun z=>some (AV.int .i64 z)) (by first|omega|(dsimp only;omega))) ?_);exact trivial) ?_ (by (repeat refine And.intro (by first|rfl|exact congrArg (fun z=>some (AV.int .i64 z)) (by first|omega|(dsimp only;omega))) ?_);exact trivial) (by (repeat refine And.intro (by first|rfl|exact congrArg (fun z=>some (AV.int .i64 z)) (by first|omega|(dsimp only;omega))) ?_);exact trivial) (fun _=>⟨rfl,rfl,okArR,by simp [hE]⟩) (fun q hk=>?_)
  ·exact⟨(swap_perm (W.Rt.mk 0 []) (by omega) (by omega)).trans hp4,by dsimp only;omega⟩
  obtain⟨j1,l5⟩:=q
  obtain⟨hp5,hj1⟩:=hk
  dsimp only at hp5 hj1 ⊢
  have hl5:=hp5.length_eq
  conv=>whnf
  repeat' (first|((first|with_reducible refine Ix.nat _ ?_|refine Ix.tn (by omega) ?_|refine Pc.sym ?_|refine LdAt.row (e:=rtC) (n:=13) (fun _=>rfl) ⟨0,[]⟩ rfl _ (Nat.zero_add _) (by omega) ?_|refine StAt.el (e:=rtC) (n:=13) (fun _=>rfl) _ rfl rfl _ (Nat.zero_add _) (by first|omega|(simp only [List.length_set];omega)) ?_|(refine Drw.len 18 15 rfl rfl ?_;refine Drw.lateP tabOk [0,1,5,6,7,8,9,10,11,12,13,14] [2,3,4] [15,16,17] (by kernel_rfl) (by kernel_rfl) ?_)|refine CallX.pu (orderC _ _) rfl rfl ?_|refine Ob.mk (by omega) ?_|refine Ob.mk (by unfold W.I64 at *;omega) ?_|refine Drw.loose (by kernel_rfl) ?_);conv=>whnf)|((first|refine Br.d (fun h=>?_) (fun h=>?_)|refine Br.n (fun h=>?_) (fun h=>?_))<;>conv=>whnf))
  all_goals try
   refine Exists.intro (j1-1,_) ⟨⟨?_,by dsimp only;omega⟩,by dsimp only;omega,(by (repeat refine And.intro (by first|rfl|exact congrArg (fun z=>some (AV.int .i64 z)) (by first|omega|(dsimp only;omega))) ?_);exact trivial),(by trivial),(by trivial)⟩
   exact(swap_perm (W.Rt.mk 0 []) (by omega) (by omega)).trans hp5
  all_goals try exact Exists.intro (i2,j'+1,l5) ⟨⟨hp5,by dsimp only;omega,by dsimp only;omega,by dsimp only;omega⟩,by dsimp only;omega,(by (repeat refine And.intro (by first|rfl|exact congrArg (fun z=>some (AV.int .i64 z)) (by first|omega|(dsimp only;omega))) ?_);exact trivial),(by trivial),(by trivial)⟩
  all_goals
   refine LoopAt.rule tabOk [(0,_),(1,_),(2,_),(9,_),(10,_),(3,_)] (fun (q:Nat×List W.Rt)=>[(12,.int .i64 (q.1:Int))]) (fun (q:Nat×List W.Rt)=>[.blk (ar rtC q.2 r)]) (fun (q:Nat×List W.Rt)=>q.2.Perm l∧i2+1≤q.1∧q.1≤b) (fun (q:Nat×List W.Rt)=>b-q.1) (i2+1,_) (by (repeat refine And.intro (by first|rfl|exact congrArg (fun z=>some (AV.int .i64 z)) (by first|omega|(dsimp only;omega))) ?_);exact trivial) ?_ (by (repeat refine And.intro (by first|rfl|exact congrArg (fun z=>some (AV.int .i64 z)) (by first|omega|(dsimp only;omega))) ?_);exact trivial) (by (repeat refine And.intro (by first|rfl|exact congrArg (fun z=>some (AV.int .i64 z)) (by first|omega|(dsimp only;omega))) ?_);exact trivial) (fun _=>⟨rfl,rfl,okArR,by simp [hE]⟩) (fun q hk=>?_)
   ·exact⟨hp5,by dsimp only;omega,by dsimp only;omega⟩
   obtain⟨j2,l6⟩:=q
   obtain⟨hp6,hj3,hj4⟩:=hk
   dsimp only at hp6 hj3 hj4 ⊢
   have hl6:=hp6.length_eq
   conv=>whnf
   repeat' (first|((first|with_reducible refine Ix.nat _ ?_|refine Ix.tn (by omega) ?_|refine Pc.sym ?_|refine LdAt.row (e:=rtC) (n:=13) (fun _=>rfl) ⟨0,[]⟩ rfl _ (Nat.zero_add _) (by omega) ?_|refine StAt.el (e:=rtC) (n:=13) (fun _=>rfl) _ rfl rfl _ (Nat.zero_add _) (by first|omega|(simp only [List.length_set];omega)) ?_|(refine Drw.len 18 15 rfl rfl ?_;refine Drw.lateP tabOk [0,1,5,6,7,8,9,10,11,12,13,14] [2,3,4] [15,16,17] (by kernel_rfl) (by kernel_rfl) ?_)|refine CallX.pu (orderC _ _) rfl rfl ?_|refine Ob.mk (by omega) ?_|refine Ob.mk (by unfold W.I64 at *;omega) ?_|refine Drw.loose (by kernel_rfl) ?_);conv=>whnf)|((first|refine Br.d (fun h=>?_) (fun h=>?_)|refine Br.n (fun h=>?_) (fun h=>?_))<;>conv=>whnf))
   all_goals try
    refine Exists.intro (j2+1,_) ⟨⟨?_,by dsimp only;omega,by dsimp only;omega⟩,by dsimp only;omega,(by (repeat refine And.intro (by first|rfl|exact congrArg (fun z=>some (AV.int .i64 z)) (by first|omega|(dsimp only;omega))) ?_);exact trivial),(by trivial),(by trivial)⟩
    exact(swap_perm (W.Rt.mk 0 []) (by omega) (by omega)).trans hp6
   all_goals exact Exists.intro (i2,j'+1,l6) ⟨⟨hp6,by dsimp only;omega,by dsimp only;omega,by dsimp only;omega⟩,by dsimp only;omega,(by (repeat refine And.intro (by first|rfl|exact congrArg (fun z=>some (AV.int .i64 z)) (by first|omega|(dsimp only;omega))) ?_);exact trivial),(by trivial),(by trivial)⟩
 ·refine LoopAt.rule tabOk [(0,_),(1,_),(2,_),(9,_),(10,_),(3,_)] (fun (q:Nat×List W.Rt)=>[(12,.int .i64 (q.1:Int))]) (fun (q:Nat×List W.Rt)=>[.blk (ar rtC q.2 r)]) (fun (q:Nat×List W.Rt)=>q.2.Perm l∧i2+1≤q.1∧q.1≤b) (fun (q:Nat×List W.Rt)=>b-q.1) (i2+1,_) (by (repeat refine And.intro (by first|rfl|exact congrArg (fun z=>some (AV.int .i64 z)) (by first|omega|(dsimp only;omega))) ?_);exact trivial) ?_ (by (repeat refine And.intro (by first|rfl|exact congrArg (fun z=>some (AV.int .i64 z)) (by first|omega|(dsimp only;omega))) ?_);exact trivial) (by (repeat refine And.intro (by first|rfl|exact congrArg (fun z=>some (AV.int .i64 z)) (by first|omega|(dsimp only;omega))) ?_);exact trivial) (fun _=>⟨rfl,rfl,okArR,by simp [hE]⟩) (fun q hk=>?_)
  ·exact⟨(swap_perm (W.Rt.mk 0 []) (by omega) (by omega)).trans hp4,by dsimp only;omega,by dsimp only;omega⟩
  obtain⟨j2,l6⟩:=q
  obtain⟨hp6,hj3,hj4⟩:=hk
  dsimp only at hp6 hj3 hj4 ⊢
  have hl6:=hp6.length_eq
  conv=>whnf
  repeat' (first|((first|with_reducible refine Ix.nat _ ?_|refine Ix.tn (by omega) ?_|refine Pc.sym ?_|refine LdAt.row (e:=rtC) (n:=13) (fun _=>rfl) ⟨0,[]⟩ rfl _ (Nat.zero_add _) (by omega) ?_|refine StAt.el (e:=rtC) (n:=13) (fun _=>rfl) _ rfl rfl _ (Nat.zero_add _) (by first|omega|(simp only [List.length_set];omega)) ?_|(refine Drw.len 18 15 rfl rfl ?_;refine Drw.lateP tabOk [0,1,5,6,7,8,9,10,11,12,13,14] [2,3,4] [15,16,17] (by kernel_rfl) (by kernel_rfl) ?_)|refine CallX.pu (orderC _ _) rfl rfl ?_|refine Ob.mk (by omega) ?_|refine Ob.mk (by unfold W.I64 at *;omega) ?_|refine Drw.loose (by kernel_rfl) ?_);conv=>whnf)|((first|refine Br.d (fun h=>?_) (fun h=>?_)|refine Br.n (fun h=>?_) (fun h=>?_))<;>conv=>whnf))
  all_goals try
   refine Exists.intro (j2+1,_) ⟨⟨?_,by dsimp only;omega,by dsimp only;omega⟩,by dsimp only;omega,(by (repeat refine And.intro (by first|rfl|exact congrArg (fun z=>some (AV.int .i64 z)) (by first|omega|(dsimp only;omega))) ?_);exact trivial),(by trivial),(by trivial)⟩
   exact(swap_perm (W.Rt.mk 0 []) (by omega) (by omega)).trans hp6
  all_goals exact Exists.intro (i2,j'+1,l6) ⟨⟨hp6,by dsimp only;omega,by dsimp only;omega,by dsimp only;omega⟩,by dsimp only;omega,(by (repeat refine And.intro (by first|rfl|exact congrArg (fun z=>some (AV.int .i64 z)) (by first|omega|(dsimp only;omega))) ?_);exact trivial),(by trivial),(by trivial)⟩
theorem breakC(l:List W.Rt)(r:List Value)(n c:Nat)(x y:Int)(hn:l.length=n)(h0:0≤x)(hz:x≤y)(hb:y≤n)(hc:n≤255) :
  SortC rtC 13 207 n c l r [I x,I y,cmpV] (·=.tup []):=by
 obtain⟨a,rfl⟩:=Int.eq_ofNat_of_zero_le h0
 obtain⟨b,rfl⟩:=Int.eq_ofNat_of_zero_le (show 0≤y by omega)
 refine enterO tabOk (N:=67) (gs:=[_]) (args:=[_,_,_,_]) Tryz.func207 rfl rfl rfl (nLe rfl) (fun E hE=>?_)
 conv=>whnf
 repeat' (first|((refine Ob.mk (by unfold W.I64 at *;omega) ?_);conv=>whnf)|((refine Br.d (fun h=>?_) (fun h=>?_))<;>conv=>whnf))
 rotate_left
 ·exact FinAt.asis (ars:=[]) [] RvL.nil (by simp) (by show 1≤_;simp) okArR ⟨rfl,l,.refl _,rfl⟩
 refine CallS.call (CallN.puP (nextPow ((b:Int)-a) (by omega) (by omega)) rfl (fun m hm=>?_))
 obtain⟨m,rfl,hm1,hm2⟩:=hm
 conv=>whnf
 repeat' ((refine Ob.mk (by unfold W.I64 at *;omega) ?_);conv=>whnf)
 refine LoopAt.rule tabOk [(0,_),(1,_),(8,_),(9,_),(10,_)] (fun (q:Nat×Int×List W.Rt)=>[(11,.int .i64 (q.1:Int))]) (fun (q:Nat×Int×List W.Rt)=>[.blk (ar rtC q.2.2 r),.blk [.int .u64 q.2.1]]) (fun (q:Nat×Int×List W.Rt)=>q.2.2.Perm l∧(a:Int)≤q.1∧(q.1:Int)≤a+((b:Int)-a)/4*2+2) (fun (q:Nat×Int×List W.Rt)=>(a+(b-a)/4*2+2)-q.1) (a+(b-a)/4*2-1,_,l) (by (repeat refine And.intro (by first|rfl|exact congrArg (fun z=>some (AV.int .i64 z)) (by first|omega|(dsimp only;omega))) ?_);exact trivial) ⟨.refl _,by dsimp only;omega,by dsimp only;omega⟩ (by (repeat refine And.intro (by first|rfl|exact congrArg (fun z=>some (AV.int .i64 z)) (by first|omega|(dsimp only;omega))) ?_);exact trivial) (by (repeat refine And.intro (by first|rfl|exact congrArg (fun z=>some (AV.int .i64 z)) (by first|omega|(dsimp only;omega))) ?_);exact trivial) (fun _=>⟨rfl,rfl,okArR2 rfl,by simp [hE]⟩) (fun q hk=>?_)
 obtain⟨q,y,l1⟩:=q
 obtain⟨hp,hq,hq2⟩:=hk
 dsimp only at hp hq hq2 ⊢
 have hl1:=hp.length_eq
 conv=>whnf
 repeat' (first|((refine Ob.mk (by unfold W.I64 at *;omega) ?_);conv=>whnf)|((refine Br.d (fun h=>?_) (fun h=>?_))<;>conv=>whnf))
 rotate_left
 ·exact FinAt.asis (ars:=[]) [] RvL.nil (by simp) (by show 1≤_;simp) okArR ⟨rfl,l1,hp,rfl⟩
 refine CallS.call (CallN.upd [1] [] (RvJL.cons (RvJ.ownP rfl) RvJL.nil) (Als.nil _) (by simp) (Giv.one rfl (by simp) (RcJ.pu rfl)) (xorNext y) (fun v gs ⟨y',h1,h2,h3,h4⟩ _=>?_))
 subst h1
 subst h4
 have hw:IntKind.u64.wrap (m-1)=m-1:=wrap_u64_id (by omega) (by omega)
 conv=>whnf
 repeat' (first|((first|with_reducible refine Ix.nat _ ?_|refine Ix.tn (by omega) ?_|refine Pc.sym ?_|refine LdAt.row (e:=rtC) (n:=13) (fun _=>rfl) ⟨0,[]⟩ rfl _ (Nat.zero_add _) (by omega) ?_|refine StAt.el (e:=rtC) (n:=13) (fun _=>rfl) _ rfl rfl _ (Nat.zero_add _) (by first|omega|(simp only [List.length_set];omega)) ?_|(refine Drw.len 20 17 rfl rfl ?_;refine Drw.lateP tabOk [0,1,6,7,8,9,10,11,12,13,14,15,16] [2,3,4,5] [17,18,19] (by kernel_rfl) (by kernel_rfl) ?_)|refine QAt.andU rfl rfl rfl (by rw [hw];omega) (by rw [hw];omega) (fun z hz0 hz1=>?_)|refine Ob.mk (by omega) ?_|refine Ob.mk (by unfold W.I64 at *;omega) ?_);conv=>whnf)|((refine Br.d (fun h=>?_) (fun h=>?_))<;>conv=>whnf))
 all_goals
  rw [hw] at hz1
  refine⟨(q+1,y',_),⟨?_,by dsimp only;omega,by dsimp only;omega⟩,by dsimp only;omega,(by (repeat refine And.intro (by first|rfl|exact congrArg (fun z=>some (AV.int .i64 z)) (by first|omega|(dsimp only;omega))) ?_);exact trivial),(by trivial),(by trivial)⟩
  exact(swap_perm (W.Rt.mk 0 []) (by omega) (by omega)).trans hp
theorem order2C(l:List W.Rt)(r:List Value)(n c:Nat)(k x y:Int)(hn:l.length=n)(h0:0≤x)(hx:x<n)(h1:0≤y)(hy:y<n)(hk:0≤k)(hk2:k≤1000) :
  CntC rtC 13 237 n c l r k 1 [I x,I y,.own 1 0,cmpV] (fun v=>v=.tup [I x,I y]∨v=.tup [I y,I x]):=by
 obtain⟨a,rfl⟩:=Int.eq_ofNat_of_zero_le h0
 obtain⟨b,rfl⟩:=Int.eq_ofNat_of_zero_le h1
 refine enterO tabOk (N:=32) (gs:=[_,_]) (args:=[_,_,_,_,_]) Tryz.func237 rfl rfl rfl (nLe rfl) (fun E hE=>?_)
 conv=>whnf
 repeat' (first|((first|with_reducible refine Ix.nat _ ?_|refine Pc.sym ?_|refine LdAt.row (e:=rtC) (n:=13) (fun _=>rfl) ⟨0,[]⟩ rfl _ (Nat.zero_add _) (by omega) ?_|refine CallX.pu (orderC _ _) rfl rfl ?_|refine Ob.mk (by omega) ?_|refine Ob.mk (by unfold W.I64 at *;omega) ?_|refine Drw.loose (by kernel_rfl) ?_);conv=>whnf)|((refine Br.d (fun h=>?_) (fun h=>?_))<;>conv=>whnf))
 ·exact FinAt.asis (ars:=[I _,I _]) [] (RvL.pu rfl) (by simp) (by show 2≤_;simp) (okArR2 rfl) ⟨.inr rfl,k+1,by omega,by omega,rfl⟩
 ·exact FinAt.asis (ars:=[I _,I _]) [] (RvL.pu rfl) (by simp) (by show 2≤_;simp) (okArR2 rfl) ⟨.inl rfl,k,by omega,by omega,rfl⟩
theorem medianC(l:List W.Rt)(r:List Value)(n c:Nat)(k x y z:Int)(hn:l.length=n)(h0:0≤x)(hx:x<n)(h1:0≤y)(hy:y<n)(h2:0≤z)(hz:z<n)(hk:0≤k)(hk2:k≤900) :
  CntC rtC 13 224 n c l r k 3 [I x,I y,I z,.own 1 0,cmpV] (fun v=>∃ p,v=I p∧(p=x∨p=y∨p=z)):=by
 refine enterO tabOk (N:=41) (gs:=[_,_]) (args:=[_,_,_,_,_,_]) Tryz.func224 rfl rfl rfl (nLe rfl) (fun E hE=>?_)
 conv=>whnf
 refine CallS.cnt (order2C l r n c k _ _ hn (by omega) (by omega) (by omega) (by omega) (by omega) (by omega)) (RvJL.cons (RvJ.pu rfl) (RvJL.cons (RvJ.pu rfl) (RvJL.cons (RvJ.ownP rfl) (RvJL.cons (RvJ.pu rfl) RvJL.nil)))) (fun _=>rfl) (fun _=>rfl) (fun v k1 hv hk1 hk1'=>?_)
 rcases hv with rfl|rfl
 all_goals
  conv=>whnf
  refine CallS.cnt (order2C l r n c k1 _ _ hn (by omega) (by omega) (by omega) (by omega) (by omega) (by omega)) (RvJL.cons (RvJ.pu rfl) (RvJL.cons (RvJ.pu rfl) (RvJL.cons (RvJ.ownP rfl) (RvJL.cons (RvJ.pu rfl) RvJL.nil)))) (fun _=>rfl) (fun _=>rfl) (fun v k2 hv hk2 hk2'=>?_)
  rcases hv with rfl|rfl
 all_goals
  conv=>whnf
  refine CallS.cnt (order2C l r n c k2 _ _ hn (by omega) (by omega) (by omega) (by omega) (by omega) (by omega)) (RvJL.cons (RvJ.pu rfl) (RvJL.cons (RvJ.pu rfl) (RvJL.cons (RvJ.ownP rfl) (RvJL.cons (RvJ.pu rfl) RvJL.nil)))) (fun _=>rfl) (fun _=>rfl) (fun v k3 hv hk3 hk3'=>?_)
  rcases hv with rfl|rfl
 all_goals
  conv=>whnf
  exact FinAt.asis (ars:=[I _]) [] (RvL.pu rfl) (by simp) (by show 2≤_;simp) (okArR2 rfl) ⟨⟨_,rfl,by simp⟩,k3,by omega,by omega,rfl⟩
theorem medAdjC(l:List W.Rt)(r:List Value)(n c:Nat)(k x:Int)(hn:l.length=n)(h0:1≤x)(hx:x+1<n)(hk:0≤k)(hk2:k≤900)(hc:n≤1000000) :
  CntC rtC 13 223 n c l r k 3 [I x,.own 1 0,cmpV] (fun v=>∃ p,v=I p∧x-1≤p∧p≤x+1):=by
 refine enterO tabOk (N:=18) (gs:=[_,_]) (args:=[_,_,_,_]) Tryz.func223 rfl rfl rfl (nLe rfl) (fun E hE=>?_)
 conv=>whnf
 repeat' ((refine Ob.mk (by unfold W.I64 at *;omega) ?_);conv=>whnf)
 refine CallS.cnt (medianC l r n c k _ _ _ hn (by omega) (by omega) (by omega) (by omega) (by omega) (by omega) (by omega) (by omega)) (RvJL.cons (RvJ.pu rfl) (RvJL.cons (RvJ.pu rfl) (RvJL.cons (RvJ.pu rfl) (RvJL.cons (RvJ.ownP rfl) (RvJL.cons (RvJ.pu rfl) RvJL.nil))))) (fun _=>rfl) (fun _=>rfl) (fun v k1 hv hk1 hk1'=>?_)
 obtain⟨p,rfl,hp⟩:=hv
 conv=>whnf
 exact FinAt.asis (ars:=[I _]) [] (RvL.pu rfl) (by simp) (by show 2≤_;simp) (okArR2 rfl) ⟨⟨p,rfl,by omega,by omega⟩,k1,by omega,by omega,rfl⟩
theorem pivotC(l:List W.Rt)(r:List Value)(n c:Nat)(x y:Int)(hn:l.length=n)(h0:0≤x)(hx:x<y)(hy:y≤n)(hc:n≤1000000) :
  SortC rtC 13 208 n c l r [I x,I y,cmpV] (fun v=>∃ p h,v=.tup [I p,I h]∧x≤p∧p<y):=by
 have fin:∀ (p h k:Int),x≤p→p<y→FinAt 1 [I p,I h] [.blk (ar rtC l r),.blk [I k]] (fun v gs=>(∃ p h,v=.tup [I p,I h]∧x≤p∧p<y)∧∃ l',l'.Perm l∧gs=[.blk (ar rtC l' r)]):=fun p h k h1 h2=>FinAt.asis (ars:=[I _,I _]) [] (RvL.pu rfl) (by simp) (by show 1≤_;simp) okArR ⟨⟨p,h,rfl,h1,h2⟩,l,.refl _,rfl⟩
 refine enterO tabOk (N:=63) (gs:=[_]) (args:=[_,_,_,_]) Tryz.func208 rfl rfl rfl (nLe rfl) (fun E hE=>?_)
 conv=>whnf
 repeat' (first|((first|refine Br.pt (by omega) ?_|refine Ob.mk (by unfold W.I64 at *;omega) ?_);conv=>whnf)|((refine Br.d (fun h=>?_) (fun h=>?_))<;>conv=>whnf))
 ·refine CallS.cnt (medAdjC l r n c 0 _ hn (by omega) (by omega) (by omega) (by omega) hc) (RvJL.cons (RvJ.pu rfl) (RvJL.cons (RvJ.ownP rfl) (RvJL.cons (RvJ.pu rfl) RvJL.nil))) (fun _=>rfl) (fun _=>rfl) (fun v k1 hv hk1 hk1'=>?_)
  obtain⟨p1,rfl,hp1,hp1'⟩:=hv
  conv=>whnf
  refine CallS.cnt (medAdjC l r n c k1 _ hn (by omega) (by omega) (by omega) (by omega) hc) (RvJL.cons (RvJ.pu rfl) (RvJL.cons (RvJ.ownP rfl) (RvJL.cons (RvJ.pu rfl) RvJL.nil))) (fun _=>rfl) (fun _=>rfl) (fun v k2 hv hk2 hk2'=>?_)
  obtain⟨p2,rfl,hp2,hp2'⟩:=hv
  conv=>whnf
  refine CallS.cnt (medAdjC l r n c k2 _ hn (by omega) (by omega) (by omega) (by omega) hc) (RvJL.cons (RvJ.pu rfl) (RvJL.cons (RvJ.ownP rfl) (RvJL.cons (RvJ.pu rfl) RvJL.nil))) (fun _=>rfl) (fun _=>rfl) (fun v k3 hv hk3 hk3'=>?_)
  obtain⟨p3,rfl,hp3,hp3'⟩:=hv
  conv=>whnf
  refine CallS.cnt (medianC l r n c k3 _ _ _ hn (by omega) (by omega) (by omega) (by omega) (by omega) (by omega) (by omega) (by omega)) (RvJL.cons (RvJ.pu rfl) (RvJL.cons (RvJ.pu rfl) (RvJL.cons (RvJ.pu rfl) (RvJL.cons (RvJ.ownP rfl) (RvJL.cons (RvJ.pu rfl) RvJL.nil))))) (fun _=>rfl) (fun _=>rfl) (fun v k4 hv hk4 hk4'=>?_)
  obtain⟨p4,rfl,hp4⟩:=hv
  conv=>whnf
  repeat' ((refine Br.d (fun h=>?_) (fun h=>?_))<;>conv=>whnf)
  all_goals exact fin _ _ _ (by omega) (by omega)
 ·refine CallS.cnt (medianC l r n c 0 _ _ _ hn (by omega) (by omega) (by omega) (by omega) (by omega) (by omega) (by omega) (by omega)) (RvJL.cons (RvJ.pu rfl) (RvJL.cons (RvJ.pu rfl) (RvJL.cons (RvJ.pu rfl) (RvJL.cons (RvJ.ownP rfl) (RvJL.cons (RvJ.pu rfl) RvJL.nil))))) (fun _=>rfl) (fun _=>rfl) (fun v k4 hv hk4 hk4'=>?_)
  obtain⟨p4,rfl,hp4⟩:=hv
  conv=>whnf
  repeat' (first|((refine Br.pf (by omega) ?_);conv=>whnf)|((refine Br.d (fun h=>?_) (fun h=>?_))<;>conv=>whnf))
  all_goals exact fin _ _ _ (by omega) (by omega)
 all_goals exact fin _ _ _ (by omega) (by omega)
theorem pdqC:∀ (m:Nat) (l:List W.Rt) (r:List Value) (n c:Nat) (x y z:Int) (hn:l.length=n) (h0:0≤x) (hx:x≤y) (hy:y≤n) (hc:n≤255) (hz:0≤z) (hz2:z≤1000) (hm:y-x<m),
  SortC rtC 13 196 n c l r [I x,I y,I z,cmpV] (·=.tup [])
 |0,_,_,_,_,_,_,_,_,_,_,_,_,_,_,hm=>by omega
 |m+1,l,r,n,c,x,y,z,hn,h0,hx,hy,hc,hz,hz2,hm=>by
  refine enterO tabOk (N:=148) (gs:=[_]) (args:=[_,_,_,_,_]) Tryz.func196 rfl rfl rfl (nLe rfl) (fun E hE=>?_)
  conv=>whnf
  refine LoopAt.rule tabOk [(0,_),(4,_)] (fun (q:Int×Int×Int×Bool×Bool×List W.Rt)=>[(1,.int .i64 q.1),(2,.int .i64 q.2.1),(3,.int .i64 q.2.2.1),(10,.bool q.2.2.2.1),(11,.bool q.2.2.2.2.1)]) (fun (q:Int×Int×Int×Bool×Bool×List W.Rt)=>[.blk (ar rtC q.2.2.2.2.2 r)]) (fun (q:Int×Int×Int×Bool×Bool×List W.Rt)=>q.2.2.2.2.2.Perm l∧x≤q.1∧q.1≤q.2.1∧q.2.1≤y∧0≤q.2.2.1∧q.2.2.1≤1000) (fun (q:Int×Int×Int×Bool×Bool×List W.Rt)=>(q.2.1-q.1).toNat) (x,y,z,true,true,l) (by (repeat refine And.intro (by first|rfl|exact congrArg (fun z=>some (AV.int .i64 z)) (by first|omega|(dsimp only;omega))) ?_);exact trivial) ⟨.refl _,Int.le_refl _,hx,Int.le_refl _,hz,hz2⟩ (by (repeat refine And.intro (by first|rfl|exact congrArg (fun z=>some (AV.int .i64 z)) (by first|omega|(dsimp only;omega))) ?_);exact trivial) (by (repeat refine And.intro (by first|rfl|exact congrArg (fun z=>some (AV.int .i64 z)) (by first|omega|(dsimp only;omega))) ?_);exact trivial) (fun _=>⟨rfl,rfl,okArR,by simp [hE]⟩) (fun q hk=>?_)
  obtain⟨a,b,d,b1,b2,l1⟩:=q
  obtain⟨hp,ha,hab,hb,hd,hd2⟩:=hk
  dsimp only at hp ha hab hb hd hd2 ⊢
  have hl1:=hp.length_eq
  conv=>whnf
  repeat' (first|((first|refine Ix.tn (by omega) ?_|refine Pc.sym ?_|refine LdAt.row (e:=rtC) (n:=13) (fun _=>rfl) ⟨0,[]⟩ rfl _ (Nat.zero_add _) (by omega) ?_|refine CallS.srtP (insertC _ r n c _ _ (by omega) (by omega) (by omega) (by omega) (by omega)) (by assumption) rfl (fun _=>rfl) (fun _=>rfl) (fun x l' hx hp' hl'=>?_);obtain rfl:=hx|refine CallS.srtP (heapC _ r n c _ _ (by omega) (by omega) (by omega) (by omega) (by omega)) (by assumption) rfl (fun _=>rfl) (fun _=>rfl) (fun x l' hx hp' hl'=>?_);obtain rfl:=hx|refine CallS.srtP (breakC _ r n c _ _ (by omega) (by omega) (by omega) (by omega) (by omega)) (by assumption) rfl (fun _=>rfl) (fun _=>rfl) (fun x l' hx hp' hl'=>?_);obtain rfl:=hx|refine CallS.srtP (pivotC _ r n c _ _ (by omega) (by omega) (by omega) (by omega) (by omega)) (by assumption) rfl (fun _=>rfl) (fun _=>rfl) (fun x l' hx hp' hl'=>?_);obtain⟨p,h,rfl,hp1,hp2⟩:=hx|refine CallS.srtP (revC _ r n c _ _ (by omega) (by omega) (by omega) (by omega) (by omega)) (by assumption) rfl (fun _=>rfl) (fun _=>rfl) (fun x l' hx hp' hl'=>?_);obtain rfl:=hx|refine CallS.srtP (partInsC _ r n c _ _ (by omega) (by omega) (by omega) (by omega) (by omega)) (by assumption) rfl (fun _=>rfl) (fun _=>rfl) (fun x l' hx hp' hl'=>?_);obtain⟨p,rfl⟩:=hx|refine CallS.srtP (partEqC _ r n c _ _ _ (by omega) (by omega) (by omega) (by omega) (by omega) (by omega)) (by assumption) rfl (fun _=>rfl) (fun _=>rfl) (fun x l' hx hp' hl'=>?_);obtain⟨p,rfl,hp1,hp2⟩:=hx|refine CallS.srtP (partC _ r n c _ _ _ (by omega) (by omega) (by omega) (by omega) (by omega) (by omega)) (by assumption) rfl (fun _=>rfl) (fun _=>rfl) (fun x l' hx hp' hl'=>?_);obtain⟨p,b,rfl,hp1,hp2⟩:=hx|refine CallS.srtP (pdqC m _ r n c _ _ _ (by omega) (by omega) (by omega) (by omega) (by omega) (by omega) (by omega) (by omega)) (by assumption) rfl (fun _=>rfl) (fun _=>rfl) (fun x l' hx hp' hl'=>?_);obtain rfl:=hx|refine Br.ot (by assumption) ?_|refine Br.of (by assumption) ?_|refine Br.pt (by assumption) ?_|refine Br.pf (by assumption) ?_|refine Br.pt (by omega) ?_|refine Br.pf (by omega) ?_|refine Br.of rfl ?_|refine CallX.pu (orderC _ _) rfl rfl ?_|refine Ob.mk (by omega) ?_|refine Ob.mk (by unfold W.I64 at *;omega) ?_|refine Ob.mk (by simp only [Option.getD_some,Option.getD_none];omega) ?_|refine Drw.loose (by kernel_rfl) ?_);conv=>whnf)|((first|refine Br.d (fun h=>?_) (fun h=>?_)|refine Br.n (fun h=>?_) (fun h=>?_)|refine Br.mk (fun h=>?_) (fun h=>?_))<;>conv=>whnf))
  all_goals first
   |exact FinAt.asis (ars:=[]) [] RvL.nil (by simp) (by show 1≤_;simp) okArR ⟨rfl,_,(by assumption),rfl⟩
   |(
     refine Exists.intro (_,_,_,_,_,_) ⟨?_,?_,(by trivial),(by trivial),(by trivial)⟩
     ·refine⟨by assumption,?_,?_,?_,?_,?_⟩<;>dsimp only<;>omega
     ·dsimp only;omega)
theorem sortC(l:List W.Rt)(r:List Value)(n c:Nat)(hn:l.length=n)(h0:0<n)(hc:n≤255) :
  SortC rtC 13 183 n c l r [cmpV] (·=.tup []):=by
 refine enterO tabOk (N:=14) (gs:=[_]) (args:=[_,_]) Tryz.func183 rfl rfl rfl (nLe rfl) (fun E hE=>?_)
 have hw:IntKind.u64.wrap (n:Int)=n:=wrap_u64_id (by omega) (by omega)
 conv=>whnf
 refine CallS.call (CallN.puP (by rw [hw];exact bitsLen n (by omega) (by omega)) rfl (fun v hv=>?_))
 obtain⟨q,rfl,h2,h3,h4⟩:=hv
 conv=>whnf
 refine CallS.srt (pdqC (n+1) l r n c _ _ _ hn (by omega) (by omega) (by omega) hc (by omega) (by omega) (by omega)) rfl (fun _=>rfl) (fun _=>rfl) (fun x l' hx hp=>?_)
 subst hx
 conv=>whnf
 exact FinAt.asis (ars:=[]) [] RvL.nil (by simp) (by show 1≤_;simp) okArR ⟨rfl,_,hp,rfl⟩
theorem LoopAt.empC{P:Program}{N:Nat}{E:En}{c:Code}{K:Exit→Tm→Ow→Prop}{tm:Tm}{own:Ow}(i k e sz:Nat){cs:List AV}(hi:nth own i=some (.blk cs))(hk:nth cs k=some .emp)
  (h:LoopAt P N E c K tm (own.set i (.blk (cs.set k (.gro own.length 0)))++[.buf e sz []])):LoopAt P N E c K tm own:=by
 refine⟨⟨fun S ids a n hs=>?_⟩⟩
 have h1:=hs.emp e sz
 have hi':nth (own++[OB.buf e sz []]) i=some (.blk cs):=by rw [nth_append_old _ (nth_lt hi)];exact hi
 have h2:=h1.recell hi' (cs':=cs.set k (.gro own.length 0)) fun vs hv=>hv.setAt (fun b hb=>by
  obtain rfl:b=.slice none 0 0:=hb
  exact⟨_,by rw [← hs.len,nth_append_new],rfl,Nat.le_refl _,⟨none,0,0,rfl⟩,fun _=>rfl⟩) hk
 have e:(own++[OB.buf e sz []]).set i (.blk (cs.set k (.gro own.length 0)))=own.set i (.blk (cs.set k (.gro own.length 0)))++[.buf e sz []]:=by
  rw [List.set_append_left _ _ (nth_lt hi)]
 rw [e] at h2
 exact h.out.out S _ a n h2
theorem insertCE:Ret Tryz.prog 205 [.emp,I 0,I 0,cmpV] (·=.tup []):=by
 refine enterO tabOk (N:=53) (gs:=[]) (args:=[_,_,_,_]) Tryz.func205 rfl rfl rfl (nLe rfl) (fun E hE=>?_)
 conv=>whnf
 repeat' ((refine Ob.mk (by unfold W.I64 at *;omega) ?_);conv=>whnf)
 refine LoopAt.rule tabOk [(2,_)] (fun (k:Nat)=>[(8,.int .i64 1)]) (fun (k:Nat)=>[]) (fun (k:Nat)=>True) (fun (k:Nat)=>0) 0 (by trivial) trivial (by trivial) (by trivial) (fun _=>⟨rfl,rfl,rfl,by simp [hE]⟩) (fun k hk=>?_)
 conv=>whnf
 repeat' ((first|refine Br.nf (by assumption) ?_|refine FinAt.val rfl ?_);conv=>whnf)
 rfl
theorem pdqCE(q:Int):Ret Tryz.prog 196 [.emp,I 0,I 0,I q,cmpV] (·=.tup []):=by
 refine enterO tabOk (N:=148) (gs:=[]) (args:=[_,_,_,_,_]) Tryz.func196 rfl rfl rfl (nLe rfl) (fun E hE=>?_)
 conv=>whnf
 refine LoopAt.rule tabOk [(0,_),(1,_),(2,_),(4,_)] (fun (k:Nat)=>[]) (fun (k:Nat)=>[]) (fun (k:Nat)=>True) (fun (k:Nat)=>0) 0 (by trivial) trivial (by trivial) (by trivial) (fun _=>⟨rfl,rfl,rfl,by simp [hE]⟩) (fun k hk=>?_)
 conv=>whnf
 repeat' ((first|refine Br.pt (by omega) ?_|refine CallS.q (insertCE) rfl ?_|refine Ob.mk (by unfold W.I64 at *;omega) ?_|refine FinAt.val rfl ?_);conv=>whnf)
 rfl
theorem sortCE:Ret Tryz.prog 183 [.emp,cmpV] (·=.tup []):=by
 refine enterO tabOk (N:=14) (gs:=[]) (args:=[_,_]) Tryz.func183 rfl rfl rfl (nLe rfl) (fun E hE=>?_)
 conv=>whnf
 refine CallS.call (CallN.puP (f:=197) (post:=fun v=>∃ q:Int,v=I q∧0≤q∧q≤8) ?_ rfl (fun v hv=>?_))
 ·show Ret Tryz.prog 197 [.int .u64 0] _
  refine enterO tabOk (N:=8) (gs:=[]) (args:=[_]) Tryz.func197 rfl rfl rfl (nLe rfl) (fun E hE=>?_)
  conv=>whnf
  repeat' ((refine Br.of rfl ?_);conv=>whnf)
  refine CallS.call (CallN.puP lenZ rfl (fun r hr=>?_))
  obtain⟨q,rfl,h2⟩:=hr
  conv=>whnf
  repeat' ((refine FinAt.val rfl ?_);conv=>whnf)
  exact⟨q,rfl,h2⟩
 ·obtain⟨q,rfl,h2,h3⟩:=hv
  conv=>whnf
  repeat' ((first|refine CallS.q (pdqCE q) rfl ?_|refine FinAt.val rfl ?_);conv=>whnf)
  rfl
def freeN(is:List Nat):Nat→Nat
 |0=>0
 |n+1=>freeN is n+if n∈is then 0 else 1
theorem freeN_nil:∀ n,freeN [] n=n
 |0=>rfl
 |n+1=>by simp [freeN,freeN_nil n]
theorem freeN_ge(is:List Nat)(i:Nat):∀ n,n≤i→freeN (is++[i]) n=freeN is n
 |0,_=>rfl
 |n+1,h=>by
  have:n≠i:=by omega
  simp [freeN,freeN_ge is i n (by omega),this]
theorem freeN_add(is:List Nat)(i:Nat)(hi:¬ i∈is):∀ n,i<n→freeN (is++[i]) n+1=freeN is n
 |0,h=>by omega
 |n+1,h=>by
  by_cases e:n=i
  ·subst e
   have:=freeN_ge is n n (Nat.le_refl _)
   simp [freeN,this,hi]
  ·have h1:=freeN_add is i hi n (by omega)
   simp only [freeN,List.mem_append,List.mem_singleton,e,or_false]
   omega
theorem perm_mem{α:Type}[DecidableEq α]:∀ {a b:List α},a.Nodup→b.Nodup→(∀ x,x∈a↔x∈b)→a.Perm b
 |[],b,_,_,h=>by
  cases b with
  |nil=>exact .refl _
  |cons y b=>exact absurd ((h y).2 List.mem_cons_self) (by simp)
 |x::a,b,ha,hb,h=>by
  have hx:x∈b:=(h x).1 List.mem_cons_self
  have hp:=List.perm_cons_erase hx
  have hn:=(List.nodup_cons.1 ha)
  refine .trans (.cons x ?_) hp.symm
  refine perm_mem hn.2 (hb.erase x) fun y=>?_
  constructor
  ·intro hy
   have:y≠x:=fun e=>hn.1 (e ▸ hy)
   exact(List.mem_erase_of_ne this).2 ((h y).1 (List.mem_cons_of_mem _ hy))
  ·intro hy
   have hne:y≠x:=fun e=>by
    subst e
    exact absurd hy (List.Nodup.not_mem_erase hb)
   have:=(h y).2 (List.mem_of_mem_erase hy)
   rcases List.mem_cons.1 this with e|e
   ·exact absurd e hne
   ·exact e
theorem nodup_range(n:Nat):(List.range n).Nodup:=List.nodup_range
def pick(l:List W.Rt)(is:List Nat):List W.Rt:=is.map fun i=>l.getD i ⟨0,[]⟩
theorem pick_all(l:List W.Rt):pick l (List.range l.length)=l:=by
 unfold pick
 apply List.ext_getElem?
 intro k
 rw [List.getElem?_map]
 by_cases h:k<l.length
 ·simp [h,List.getD]
 ·rw [List.getElem?_eq_none (by simpa using h),List.getElem?_eq_none (by omega)];rfl
theorem pick_perm{l:List W.Rt}{is:List Nat}(hn:is.Nodup)(hb:∀ i∈is,i<l.length)(hall:∀ i,i<l.length→i∈is):(pick l is).Perm l:=by
 have h1:is.Perm (List.range l.length):=perm_mem hn (nodup_range _) fun x=>⟨fun h=>List.mem_range.2 (hb x h),fun h=>hall x (List.mem_range.1 h)⟩
 have h2:=h1.map fun i=>l.getD i ⟨0,[]⟩
 have h3:=pick_all l
 unfold pick at h3
 rw [h3] at h2
 exact h2
theorem insBy_perm{α:Type}(le:α→α→Bool)(x:α):∀ l:List α,(W.insBy le x l).Perm (x::l)
 |[]=>.refl _
 |y::l=>by
  unfold W.insBy
  split
  ·exact .refl _
  ·exact .trans (.cons y (insBy_perm le x l)) (.swap x y l)
theorem sortBy_perm{α:Type}(le:α→α→Bool):∀ l:List α,(W.sortBy le l).Perm l
 |[]=>.refl _
 |x::l=>.trans (insBy_perm le x _) (.cons x (sortBy_perm le l))
theorem addRt_len(r:W.Rt)(l:List W.Rt):(W.addRt r l).length≤l.length+1:=by
 unfold W.addRt;split<;>simp
theorem growF_len(t:W.Trk)(p:W.Sp):∀ (f:Nat) (r:W.Rt) (e:Int) (st:List W.Rt×Int),(st.2=0→st.1.length≤16)→st.1.length≤17→((W.growF t p f r e st).2=0→(W.growF t p f r e st).1.length≤16)∧(W.growF t p f r e st).1.length≤17
 |0,r,e,st,h,h2=>⟨h,h2⟩
 |f+1,r,e,st,h,h2=>by
  unfold W.growF
  split
  ·exact⟨h,h2⟩
  ·next h0 =>
   have h16:=h (by simpa using h0)
   split
   ·dsimp only
    have:=addRt_len r st.1
    refine⟨fun he=>?_,?_⟩
    ·by_cases hle:p.lo≤e
     ·rw [if_pos hle] at he ⊢
      by_cases h17:16<(W.addRt r st.1).length
      ·rw [if_pos h17] at he;cases he
      ·omega
     ·rw [if_neg hle];omega
    ·by_cases hle:p.lo≤e
     ·rw [if_pos hle];omega
     ·rw [if_neg hle];omega
   ·split
    ·exact⟨fun h=>by simp at h,h2⟩
    ·generalize (t.seg r.last).next=nx
     have key:∀ (nx:List Int) (st:List W.Rt×Int),(st.2=0→st.1.length≤16)→st.1.length≤17→((nx.foldl (fun st x=>W.growF t p f ⟨r.n+1,r.seg.set r.n.toNat x⟩ (e+t.len x) st) st).2=0→(nx.foldl (fun st x=>W.growF t p f ⟨r.n+1,r.seg.set r.n.toNat x⟩ (e+t.len x) st) st).1.length≤16)∧(nx.foldl (fun st x=>W.growF t p f ⟨r.n+1,r.seg.set r.n.toNat x⟩ (e+t.len x) st) st).1.length≤17:=fun nx=>by
      induction nx with
      |nil=>exact fun st h h2=>⟨h,h2⟩
      |cons x nx ih =>
       intro st h h2
       rw [List.foldl_cons]
       have:=growF_len t p f ⟨r.n+1,r.seg.set r.n.toNat x⟩ (e+t.len x) st h h2
       exact ih _ this.1 this.2
     exact key nx st h h2
theorem growAll_fold(t:W.Trk)(p:W.Sp)(s:W.RSet):∀ (l:List W.Rt) (st:List W.Rt×Int),W.growAll t p s l st=l.foldl (fun st r=>W.growF t p 13 r (s.end_ t r) st) st
 |[],st=>rfl
 |r::l,st=>by rw [W.growAll,growAll_fold t p s l,List.foldl_cons]
theorem CallS.unbufX{P:Program}{N:Nat}{E:En}{o:Oper}{f:Nat}{K:Tm→Ow→Prop}{tm:Tm}{own:Ow}(i:Nat){e sz m:Nat}{l:List (List AV)}{x:AV}(hxp:pu x=true)(Fx:Tm)(own':Nat→Ow)(hi:nth own i=some (.buf e sz l))(hl:0<l.length)(hm:m=l.length)(hg:E.gs.length≤i)(hok:own.all (ubOkO i m)=true)(hx:Sub Fx tm)(hxn:Fx.all (fun p=>noG2 i p.2)=true)
  (hO:∀ c,own' c=(own.map (ubO i sz m c)).set i (.blk l.flatten)) (h:∀ c,m≤c→c≤maxLen→CallN P N E f [.sl i 0 sz m c,x] o.dst K Fx (own' c)):CallS P N E o f [.gro i m,x] K tm own:=by
 subst hm
 refine .call ⟨fun S ids a n hs Vs hV=>?_⟩
 obtain⟨L,g,c,q1,q2,q3,q4,q5,q6,q7⟩:=hs.unbuf hi hl hg hok hx hxn
 rw [← hO] at q7
 refine(h c q5 q6).out S _ a n q7 Vs ?_
 match Vs,hV with
 |[V,U],⟨⟨L',p1,p2,p3,p4,p5⟩,hu,_⟩ =>
  rw [q1] at p1;obtain rfl:=Option.some.inj p1
  exact⟨⟨g,nth_set_self (nth_lt q1),(p5 q3).trans q4⟩,(R_pu hxp).2 ((R_pu hxp).1 hu),trivial⟩
theorem ar_flatR(l:List W.Rt):ar rtC l []=(l.map rtC).flatten:=by unfold ar;simp [List.flatMap]
structure SGood(t:W.Trk)(s:W.RSet):Prop where
 f:0≤s.from_∧s.from_≤1099511627776
 r:∀ x∈s.list,RGood t x
 n:s.list.length≤16
theorem SGood.at_{t:W.Trk}{s:W.RSet}(h:SGood t s){i:Nat}(hi:i<s.list.length):RGood t (s.list.getD i ⟨0,[]⟩):=by
 have:s.list.getD i ⟨0,[]⟩=s.list[i]:=by simp [List.getD,hi]
 rw [this]
 exact h.r _ (List.getElem_mem hi)
theorem SGood.ok{t:W.Trk}{s:W.RSet}(h:SGood t s):SOk t s:=⟨h.f,fun i hi=>(h.at_ hi).toROk,h.n⟩
theorem apRt:Ap Tryz.prog 134 229 13:=⟨.agg ⟨[.int .i64 0,.int .i64 0,.int .i64 0,.int .i64 0,.int .i64 0,.int .i64 0,.int .i64 0,.int .i64 0,.int .i64 0,.int .i64 0,.int .i64 0,.int .i64 0,.int .i64 0]⟩,104,by kernel_rfl,by kernel_rfl,rfl,by decide,by decide⟩
def GrowIs(t:W.Trk)(s:W.RSet)(p:W.Sp)(v:AV):Prop :=
 ((s.grow t p).2≠0∧v=.tup [.agg [I 0,.emp],I (s.grow t p).2])∨((s.grow t p).2=0∧∃ l,l.Perm (s.grow t p).1.list∧v=.tup [setV ⟨s.from_,l⟩,I 0])
theorem grow_(t:W.Trk)(s:W.RSet)(p:W.Sp)(ht:TLen t)(hn:NOk t)(hs:SGood t s):Ret Tryz.prog 140 [setV s,trkV t,.agg [I p.lo,I p.hi]] (GrowIs t s p):=by
 have hnn:=hs.n
 have hfb:=hs.f
 unfold GrowIs W.RSet.grow
 refine enterO tabOk (N:=84) (gs:=[]) (args:=[_,_,_]) Tryz.func140 rfl rfl rfl (nLe rfl) (fun E hE=>?_)
 by_cases hr:¬ p.right∨p.lo < -s.from_
 ·rw [if_pos hr]
  have hr2:¬ p.lo≤p.hi∨p.lo < -s.from_:=by simpa [W.Sp.right] using hr
  conv=>whnf
  repeat' (first|((first|refine Br.nt (by assumption) ?_|refine Br.nf (by assumption) ?_|refine Br.pt (by omega) ?_|refine Br.ot rfl ?_|refine CallS.q (spRight _ _) rfl ?_|refine Ob.mk (by unfold W.I64 at *;omega) ?_|refine FinAt.val rfl ?_);conv=>whnf)|((refine Br.n (fun h=>?_) (fun h=>?_))<;>conv=>whnf))
  all_goals exact .inl ⟨by decide,rfl⟩
 ·rw [if_neg hr]
  have hr2:p.lo≤p.hi∧¬ p.lo < -s.from_:=by
   have:=not_or.1 hr
   simpa [W.Sp.right] using this
  rw [growAll_fold]
  obtain⟨step,hstep⟩:∃ step:List W.Rt×Int→W.Rt→List W.Rt×Int,step=fun st r=>W.growF t p 13 r (s.end_ t r) st:=⟨_,rfl⟩
  rw [← hstep]
  have hend:∀ r,RGood t r→-1099511627776≤s.end_ t r∧s.end_ t r≤r.n*1099511627776:=fun r hr=>by
   have h1:=pre_le (f:=s.from_) ht hr.p r.path.length (Nat.le_refl _)
   have h2:=path_len hr.len hr.lo hr.hi
   have h3:=hr.lo
   have e:s.end_ t r=pre t s.from_ r.path r.path.length:=(pre_all t s.from_ r.path).symm
   rw [e]
   have h4:(r.path.length:Int)=r.n:=by omega
   rw [h4] at h1
   omega
  conv=>whnf
  repeat' ((first|refine OpAt.mkMap rfl ?_|refine Br.pf (by omega) ?_|refine Br.nf (by omega) ?_|refine CallS.q (spRight _ _) rfl ?_|refine Ob.mk (by unfold W.I64 at *;omega) ?_);conv=>whnf)
  refine LoopAt.rule tabOk [(3,_),(4,_),(5,_),(6,_),(8,_),(31,_),(32,_)] (fun (i:Nat×(List W.Rt×Int))=>[(33,.int .i64 (i.1:Int))]) (fun (i:Nat×(List W.Rt×Int))=>[.blk [I s.from_,rtsV s.list],.blk [sgsV t.segs,gpsV t.grps],.blk [I p.lo,I p.hi],.blk [I 0,.emp],.obj (MapI i.2.1),.blk [sgsV t.segs,gpsV t.grps,I p.lo,I p.hi,.mref 4,I i.2.2]]) (fun (i:Nat×(List W.Rt×Int))=>i.1≤s.list.length∧i.2=(s.list.take i.1).foldl step ([],0)∧(∀ x∈i.2.1,RGood t x)∧(i.2.2=0→i.2.1.length≤16)∧i.2.1.length≤17) (fun (i:Nat×(List W.Rt×Int))=>s.list.length-i.1) (0,([],0)) (by trivial) ⟨by simp,rfl,by simp,by simp,by simp⟩ (by trivial) (by trivial) (fun _=>⟨rfl,rfl,rfl,by simp [hE]⟩) (fun i hk=>?_)
  obtain⟨k,⟨lk,ek⟩⟩:=i
  obtain⟨hk,hst,hlk,hlen,hlen2⟩:=hk
  dsimp only at hk hst hlk hlen hlen2 ⊢
  by_cases hlt:k<s.list.length
  ·have hrg:=hs.at_ hlt
   have hee:=hend _ hrg
   conv=>whnf
   repeat' ((first|refine Drw.lateP tabOk [0,1,2,3,4,5] [] [6] (by kernel_rfl) (by kernel_rfl) ?_|refine Br.pt (by omega) ?_|refine CallD.pu (end_ t s _ ht hs.f hrg.toROk) rfl ?_|refine Ob.mk (by omega) ?_|refine Ix.nat _ ?_);conv=>whnf)
   refine CallS.call (CallN.upd [5,4] [] (RvJL.cons (RvJ.ownP rfl) (RvJL.cons (RvJ.pu rfl) (RvJL.cons (RvJ.pu rfl) RvJL.nil))) (Als.nil _) (by simp)
    ⟨rfl,by decide,by simp,Giv.consB rfl (RcJ.cons (.pu rfl) (RcJ.cons (.pu rfl) (RcJ.cons (.pu rfl) (RcJ.cons (.pu rfl) (RcJ.mref rfl (RcJ.pu rfl)))))) (Giv.consO rfl rfl (by simp) Giv.done)⟩
    (growC t p ht hn 13 (s.list.getD k ⟨0,[]⟩) (s.end_ t (s.list.getD k ⟨0,[]⟩)) lk ek (by have:=hrg.lo;omega) hrg hee.1 hee.2 hlk) (fun v gs' hp _=>?_))
   obtain⟨rfl,rfl⟩:=hp
   conv=>whnf
   repeat' ((refine Ob.mk (by unfold W.I64 at *;omega) ?_);conv=>whnf)
   have hstk:W.growF t p 13 (s.list.getD k ⟨0,[]⟩) (s.end_ t (s.list.getD k ⟨0,[]⟩)) (lk,ek)=(s.list.take (k+1)).foldl step ([],0):=by
    rw [List.take_succ_eq_append_getElem hlt,List.foldl_append,← hst,hstep]
    simp [List.getD,hlt]
   have hgl:=growF_len t p 13 (s.list.getD k ⟨0,[]⟩) (s.end_ t (s.list.getD k ⟨0,[]⟩)) (lk,ek) hlen hlen2
   exact⟨(k+1,W.growF t p 13 (s.list.getD k ⟨0,[]⟩) (s.end_ t (s.list.getD k ⟨0,[]⟩)) (lk,ek)),⟨by omega,hstk,growF_good p hn 13 _ _ _ hrg hlk,hgl.1,hgl.2⟩,by dsimp only;omega,(by trivial),(by trivial),(by trivial)⟩
  ·obtain rfl:k=s.list.length:=by omega
   rw [List.take_length] at hst
   rw [← hst]
   clear hst
   dsimp only
   conv=>whnf
   repeat' ((first|refine OpAt.range (k:=229) (e:=3) rfl (by kernel_rfl) rfl rfl (fun bm es clock hkeys=>?_)|refine Br.pf (by omega) ?_);conv=>whnf)
   have hstp:=hkeys.1
   have hkl:es.size=lk.length:=by
    have:=congrArg List.length hkeys.2
    simpa using this
   have hkey:∀ i,i<es.size→(es.getD i default).key=rtVal (lk.getD i ⟨0,[]⟩):=fun i hi=>by
    have h1:(es.toList.map (·.key))[i]?=(lk.map rtVal)[i]?:=by rw [hkeys.2]
    rw [List.getElem?_map,List.getElem?_map,Array.getElem?_toList] at h1
    have hi2:i<lk.length:=by omega
    simp [hi,hi2] at h1
    simp [Array.getD,hi,List.getD,hi2,h1]
   by_cases h0:lk=[]
   ·subst h0
    have hes0:es.size=0:=hkl
    by_cases hEk:ek=0
    ·subst hEk
     rw [if_neg (by simp)]
     refine LoopAt.rule tabOk [(3,_),(6,_),(8,_),(11,_),(52,_)] (fun (i:Nat)=>[]) (fun (i:Nat)=>[.blk [I s.from_,rtsV s.list],.blk [sgsV t.segs,gpsV t.grps],.blk [I p.lo,I p.hi],.blk [I 0,.emp],.obj (MapE bm es clock),.blk [sgsV t.segs,gpsV t.grps,I p.lo,I p.hi,.mref 4,I 0],.blk [I s.from_,.emp],.obj (ItE bm es [] clock)]) (fun (i:Nat)=>True) (fun (i:Nat)=>0) 0 (by trivial) trivial (by trivial) (by trivial) (fun _=>⟨rfl,rfl,rfl,by simp [hE]⟩) (fun i hk=>?_)
     conv=>whnf
     repeat' ((first|refine OpAt.next (j:=4) (is:=[]) rfl rfl rfl rfl rfl hstp (by simp) (fun _=>?_) (fun i hi _=>absurd hi (by omega))|refine Br.pt (by omega) ?_|refine Br.nf (by omega) ?_|refine Br.of rfl ?_|refine CallS.q (sortCE) rfl ?_|refine FinAt.val rfl ?_);conv=>whnf)
     all_goals exact .inl ⟨by show (40:Int)≠0;decide,rfl⟩
    ·rw [if_pos (by simpa using hEk)]
     refine LoopAt.rule tabOk [(3,_),(6,_),(8,_),(11,_),(52,_)] (fun (i:Nat)=>[]) (fun (i:Nat)=>[.blk [I s.from_,rtsV s.list],.blk [sgsV t.segs,gpsV t.grps],.blk [I p.lo,I p.hi],.blk [I 0,.emp],.obj (MapE bm es clock),.blk [sgsV t.segs,gpsV t.grps,I p.lo,I p.hi,.mref 4,I ek],.blk [I s.from_,.emp],.obj (ItE bm es [] clock)]) (fun (i:Nat)=>True) (fun (i:Nat)=>0) 0 (by trivial) trivial (by trivial) (by trivial) (fun _=>⟨rfl,rfl,rfl,by simp [hE]⟩) (fun i hk=>?_)
     conv=>whnf
     repeat' (first|((first|refine OpAt.next (j:=4) (is:=[]) rfl rfl rfl rfl rfl hstp (by simp) (fun _=>?_) (fun i hi _=>absurd hi (by omega))|(refine Drw.len 7 5 rfl rfl ?_;refine Drw.tree tabOk (.alt (.go 0 (.alt (.go 1 (.alt (.go 2 (.alt (.go 3 (.alt (.go 4 (.go 5 (.go 6 .done))) (.go 5 (.go 4 (.go 6 .done))))) (.go 5 (.go 3 (.go 4 (.go 6 .done)))))) (.go 5 (.go 2 (.go 3 (.go 4 (.go 6 .done))))))) (.go 5 (.go 1 (.go 2 (.go 3 (.go 4 (.go 6 .done)))))))) (.go 1 (.alt (.go 0 (.alt (.go 2 (.alt (.go 3 (.alt (.go 4 (.go 5 (.go 6 .done))) (.go 5 (.go 4 (.go 6 .done))))) (.go 5 (.go 3 (.go 4 (.go 6 .done)))))) (.go 5 (.go 2 (.go 3 (.go 4 (.go 6 .done))))))) (.go 2 (.alt (.go 0 (.alt (.go 3 (.alt (.go 4 (.go 5 (.go 6 .done))) (.go 5 (.go 4 (.go 6 .done))))) (.go 5 (.go 3 (.go 4 (.go 6 .done)))))) (.go 3 (.alt (.go 0 (.alt (.go 4 (.go 5 (.go 6 .done))) (.go 5 (.go 4 (.go 6 .done))))) (.go 4 (.go 0 (.go 5 (.go 6 .done))))))))))) 7 rfl (by kernel_rfl) ?_)|refine Br.nt (by assumption) ?_|refine Br.of rfl ?_|refine CallS.q (sortCE) rfl ?_|refine FinAt.val rfl ?_);conv=>whnf)|((refine Both.mk ?_ ?_)<;>conv=>whnf))
     all_goals exact .inl ⟨hEk,rfl⟩
   ·have hl0:0<lk.length:=by
     cases lk with
     |nil=>exact absurd rfl h0
     |cons _ _=>simp
    refine LoopAt.empC 6 1 229 13 rfl rfl ?_
    refine LoopAt.rule tabOk [(3,_),(6,_),(8,_),(11,_),(52,_)] (fun (q:List Nat×Nat×List (List AV))=>[]) (fun (q:List Nat×Nat×List (List AV))=>[.blk [I s.from_,rtsV s.list],.blk [sgsV t.segs,gpsV t.grps],.blk [I p.lo,I p.hi],.blk [I 0,.emp],.obj (MapE bm es clock),.blk [sgsV t.segs,gpsV t.grps,I p.lo,I p.hi,.mref 4,I ek],.blk [I s.from_,.gro 8 q.2.1],.obj (ItE bm es q.1 clock),.buf 229 13 q.2.2]) (fun (q:List Nat×Nat×List (List AV))=>q.1.Nodup∧(∀ i∈q.1,i<es.size)∧freeN q.1 es.size+q.1.length=es.size∧q.2.1=q.1.length∧q.2.2=(pick lk q.1).map rtC) (fun (q:List Nat×Nat×List (List AV))=>freeN q.1 es.size) ([],0,[]) (by trivial) ⟨by simp,by simp,by simp [freeN_nil],rfl,rfl⟩ (by trivial) (by trivial) (fun _=>⟨rfl,rfl,rfl,by simp [hE]⟩) (fun q hk=>?_)
    obtain⟨is,n,cs⟩:=q
    obtain⟨hnd,hbd,hfr,hn',hcs⟩:=hk
    dsimp only at hnd hbd hfr hn' hcs ⊢
    have hcl:cs.length=n:=by rw [hcs,hn',List.length_map,pick,List.length_map]
    conv=>whnf
    repeat' ((first|refine OpAt.next (j:=4) rfl rfl rfl rfl rfl hstp hbd (fun hall=>?_) (fun i hi hni=>?_)|refine OpAt.entry (j:=4) (r:=lk.getD i ⟨0,[]⟩) rfl rfl rfl rfl hstp hi (hkey i hi) ?_|refine OpAt.appG apRt rfl [10] rfl rfl rfl hcl (by simp) (by repeat (first|exact Als.nil _|refine Als.cons rfl rfl ?_)) (by simp [hE]) (Xs.one rfl rfl rfl (RvL.pu rfl) rfl) (by decide) (by omega) ?_|refine Br.ot rfl ?_|refine Br.of rfl ?_|refine BsN.mark ?_);conv=>whnf)
    ·have hpick:(pick lk is).Perm lk:=pick_perm hnd (by rw [← hkl];exact hbd) (by rw [← hkl];exact hall)
     have hpl:(pick lk is).length=n:=by rw [hn',pick,List.length_map]
     have hn0:0<n:=by rw [← hpl,hpick.length_eq];exact hl0
     have hn17:n≤17:=by rw [← hpl,hpick.length_eq];exact hlen2
     obtain⟨pk,hpk⟩:∃ pk,pk=pick lk is:=⟨_,rfl⟩
     rw [← hpk] at hcs hpick hpl
     subst hcs
     refine CallS.unbufX (m:=n) 8 rfl [(3,.own 0 0),(6,.own 3 0),(8,.own 5 0),(11,.own 6 0)] (fun c=>[.blk [I s.from_,rtsV s.list],.blk [sgsV t.segs,gpsV t.grps],.blk [I p.lo,I p.hi],.blk [I 0,.emp],.obj (MapE bm es clock),.blk [sgsV t.segs,gpsV t.grps,I p.lo,I p.hi,.mref 4,I ek],.blk [I s.from_,.sl 8 0 13 n c],.obj (ItE bm es is clock),.blk (ar rtC pk [])]) rfl (by simpa [hpl] using hn0) (by simp [hpl]) (by simp [hE]) (by simp [ubOkO,ubOk,noG1,noG0]) (by trivial) rfl (fun c=>by rw [ar_flatR];rfl) (fun c hc1 hc2=>?_)
     refine CallN.srtI 8 rfl (sortC pk [] n c hpl hn0 (by omega)) rfl (fun _=>rfl) (fun _=>rfl) (fun x l1 hx hp=>?_)
     subst hx
     have hlp:l1.length=n:=hp.length_eq.trans hpl
     by_cases hEk:ek=0
     ·subst hEk
      rw [if_neg (by simp),if_neg h0]
      conv=>whnf
      repeat' ((first|refine Br.pf (by omega) ?_|refine Br.nf (by omega) ?_);conv=>whnf)
      all_goals first
       |(exfalso;omega)
       |skip
      have e:setV ⟨s.from_,l1⟩=.agg [I s.from_,.lst 13 n fun i=>rtC (l1.getD i ⟨0,[]⟩)]:=by rw [← hlp]
      refine FinAt.gen (ars:=[setV ⟨s.from_,l1⟩,I 0]) [8] ?_ (by repeat (first|exact Als.nil _|refine Als.cons rfl rfl ?_)) (.inr ⟨rfl,l1,(hp.trans hpick).trans (sortBy_perm _ _).symm,rfl⟩)
      rw [e]
      refine RvL.cons (Rv.agg (RvL.cons (.pu rfl) (RvL.cons (Rv.slM (cs:=ar rtC l1 []) (by simp) rfl ⟨hc1,hc2⟩ (fun j hj=>?_)) RvL.nil))) (RvL.cons (.pu rfl) RvL.nil)
      obtain⟨q1,q2⟩:=ar_el (e:=rtC) (sz:=13) (fun _=>rfl) (r:=[]) (⟨0,[]⟩:W.Rt) (show j<l1.length by omega)
      refine⟨by omega,?_⟩
      rw [Nat.zero_add,q2]
      exact RvL.pu rfl
     ·rw [if_pos (by simpa using hEk)]
      conv=>whnf
      repeat' (first|((first|(refine Drw.len 7 5 rfl rfl ?_;refine Drw.tree tabOk (.alt (.go 0 (.alt (.go 1 (.alt (.go 2 (.alt (.go 3 (.alt (.go 4 (.go 5 (.go 6 .done))) (.go 5 (.go 4 (.go 6 .done))))) (.go 5 (.go 3 (.go 4 (.go 6 .done)))))) (.go 5 (.go 2 (.go 3 (.go 4 (.go 6 .done))))))) (.go 5 (.go 1 (.go 2 (.go 3 (.go 4 (.go 6 .done)))))))) (.go 1 (.alt (.go 0 (.alt (.go 2 (.alt (.go 3 (.alt (.go 4 (.go 5 (.go 6 .done))) (.go 5 (.go 4 (.go 6 .done))))) (.go 5 (.go 3 (.go 4 (.go 6 .done)))))) (.go 5 (.go 2 (.go 3 (.go 4 (.go 6 .done))))))) (.go 2 (.alt (.go 0 (.alt (.go 3 (.alt (.go 4 (.go 5 (.go 6 .done))) (.go 5 (.go 4 (.go 6 .done))))) (.go 5 (.go 3 (.go 4 (.go 6 .done)))))) (.go 3 (.alt (.go 0 (.alt (.go 4 (.go 5 (.go 6 .done))) (.go 5 (.go 4 (.go 6 .done))))) (.go 4 (.go 0 (.go 5 (.go 6 .done))))))))))) 7 rfl (by kernel_rfl) ?_)|refine Br.nt (by assumption) ?_|refine FinAt.val rfl ?_);conv=>whnf)|((refine Both.mk ?_ ?_)<;>conv=>whnf))
      all_goals exact .inl ⟨hEk,rfl⟩
    ·have hfa:=freeN_add is i hni es.size hi
     subst hcs
     refine⟨(is++[i],n+1,(pick lk is).map rtC++[rtC (lk.getD i ⟨0,[]⟩)]),⟨?_,?_,?_,?_,?_⟩,?_,(by trivial),(by trivial),(by trivial)⟩
     ·rw [List.nodup_append]
      exact⟨hnd,by simp,fun a ha b hb=>by simp at hb;subst hb;exact fun e=>hni (e ▸ ha)⟩
     ·intro j hj
      rcases List.mem_append.1 hj with h|h
      ·exact hbd j h
      ·simp at h;subst h;exact hi
     ·simp;omega
     ·simp;omega
     ·simp [pick]
     ·dsimp only;omega
abbrev plZ:AV:=.agg [.bool false,I 0,I 0,I 0,I 0,I 0,.emp]
theorem grow_from{t:W.Trk}{s:W.RSet}{p:W.Sp}(h:(s.grow t p).2=0):(s.grow t p).1.from_=s.from_:=by
 unfold W.RSet.grow at h ⊢
 split at h
 ·cases h
 ·next h1 =>
  rw [if_neg h1]
  dsimp only at h ⊢
  split at h
  ·next h2=>exact absurd h h2
  ·next h2 =>
   rw [if_neg h2]
   split at h
   ·cases h
   ·next h3=>rw [if_neg h3]
def PutIs(p:W.Place)(v:AV):Prop:=∃ l,l.Perm p.set.list∧v=plV { p with set:=⟨p.set.from_,l⟩ }
def MoveIs(t:W.Trk)(p:W.Place)(sp:W.Sp)(v:AV):Prop :=
 ((p.move t sp).2≠0∧v=.tup [plZ,I (p.move t sp).2])∨((p.move t sp).2=0∧∃ u,PutIs (p.move t sp).1 u∧v=.tup [u,I 0])
theorem move_(t:W.Trk)(p:W.Place)(sp:W.Sp)(ht:TLen t)(hn:NOk t)(hs:p.on=true→SGood t p.set)(h1:W.I64 p.pos.lo)(h2:W.I64 p.pos.hi)(h3:W.I64 p.est)(h4:W.I64 sp.lo)(h5:W.I64 sp.hi) :
  Ret Tryz.prog 97 [plV p,trkV t,.agg [I sp.lo,I sp.hi]] (MoveIs t p sp):=by
 obtain⟨on,gp,ps,est,st⟩:=p
 obtain⟨p,hp⟩:∃ p:W.Place,p=⟨true,gp,ps,est,st⟩:=⟨_,rfl⟩
 unfold MoveIs W.Place.move
 refine enterO tabOk (N:=60) (gs:=[]) (args:=[_,_,_]) Tryz.func97 rfl rfl rfl (nLe rfl) (fun E hE=>?_)
 cases on
 case true =>
  obtain rfl:gp=p.group:=by rw [hp]
  obtain rfl:ps=p.pos:=by rw [hp]
  obtain rfl:est=p.est:=by rw [hp]
  obtain rfl:st=p.set:=by rw [hp]
  clear hp
  have hs:=hs rfl
  rw [if_neg (by simp)]
  dsimp only
  dsimp only at h1 h2 h3 hs
  obtain⟨a,ha⟩:∃ a,a=p.pos.add sp:=⟨_,rfl⟩
  rw [← ha]
  obtain⟨⟨lo,hi⟩,ok⟩:=a
  have hadd:=spAdd p.pos.lo p.pos.hi sp.lo sp.hi h1 h2 h4 h5
  rw [show W.Sp.add ⟨p.pos.lo,p.pos.hi⟩ ⟨sp.lo,sp.hi⟩=p.pos.add sp from rfl,← ha] at hadd
  cases ok
  ·rw [if_pos (by simp)]
   conv=>whnf
   repeat' ((first|refine Br.ot rfl ?_|refine Br.of rfl ?_|refine CallS.q (hadd) rfl ?_|refine FinAt.val rfl ?_);conv=>whnf)
   exact .inl ⟨by show (20:Int)≠0;decide,rfl⟩
  ·cases hin:W.Sp.in_ ⟨lo,hi⟩ W.maxPlace
   ·rw [if_pos (by simp)]
    have hin2:Ret Tryz.prog 139 [.agg [I lo,I hi],.agg [I (-17592186044416),I 17592186044416]] (·=.bool false):=by
     have:=spIn lo hi (-17592186044416) 17592186044416
     rw [show (W.Sp.in_ ⟨lo,hi⟩ ⟨-17592186044416,17592186044416⟩)=false from hin] at this
     exact this
    conv=>whnf
    repeat' ((first|refine Br.ot rfl ?_|refine Br.of rfl ?_|refine CallS.q (hadd) rfl ?_|refine CallS.q (hin2) rfl ?_|refine FinAt.val rfl ?_);conv=>whnf)
    exact .inl ⟨by show (20:Int)≠0;decide,rfl⟩
   ·rw [if_neg (by simp)]
    have hin2:Ret Tryz.prog 139 [.agg [I lo,I hi],.agg [I (-17592186044416),I 17592186044416]] (·=.bool true):=by
     have:=spIn lo hi (-17592186044416) 17592186044416
     rw [show (W.Sp.in_ ⟨lo,hi⟩ ⟨-17592186044416,17592186044416⟩)=true from hin] at this
     exact this
    conv=>whnf
    repeat' ((first|refine Br.of rfl ?_|refine CallS.q (hadd) rfl ?_|refine CallS.q (hin2) rfl ?_);conv=>whnf)
    refine CallS.call (CallN.puP (grow_ t p.set ⟨lo,hi⟩ ht hn hs) rfl (fun v hv=>?_))
    have hwm:W.I64 (W.mid sp.lo sp.hi):=by
     unfold W.mid
     unfold W.I64 at *
     omega
    rcases hv with ⟨hv1,rfl⟩|⟨hv1,l,hv2,rfl⟩
    ·rw [if_pos hv1]
     conv=>whnf
     repeat' ((first|refine Br.nt (by assumption) ?_|refine FinAt.val rfl ?_);conv=>whnf)
     all_goals first
      |(exfalso;omega)
      |exact .inl ⟨hv1,rfl⟩
    ·rw [if_neg (by simpa using hv1)]
     conv=>whnf
     repeat' (first|((first|(refine Drw.len 6 3 rfl rfl ?_;refine Drw.tree tabOk (.alt (.go 0 (.alt (.go 1 (.go 2 (.go 3 (.go 4 (.go 5 .done))))) (.go 2 (.alt (.go 1 (.go 3 (.go 4 (.go 5 .done)))) (.go 3 (.go 1 (.go 4 (.go 5 .done)))))))) (.go 1 (.go 0 (.go 2 (.go 3 (.go 4 (.go 5 .done))))))) 6 rfl (by kernel_rfl) ?_)|(refine Drw.len 12 11 rfl rfl ?_;refine Drw.lateP tabOk [0,1,2,3,4,5,6,7,8,9,10] [] [11] (by kernel_rfl) (by kernel_rfl) ?_)|refine Br.nf (by omega) ?_|refine CallD.pu (spMid _ _ h4 h5) rfl ?_|refine CallD.pu (nAddSat _ _ h3 hwm) rfl ?_|refine CallD.pu (nClamp _ _ _) rfl ?_|refine FinAt.val rfl ?_);conv=>whnf)|((refine Both.mk ?_ ?_)<;>conv=>whnf))
     all_goals exact .inr ⟨rfl,_,⟨l,hv2,rfl⟩,by rw [show (p.set.grow t (({ lo:=lo,hi:=hi }:W.Sp),true).1).1.from_=p.set.from_ from grow_from hv1];rfl⟩
 case false =>
  rw [if_pos (by simp)]
  conv=>whnf
  repeat' ((first|refine Br.ot rfl ?_|refine FinAt.val rfl ?_);conv=>whnf)
  exact .inl ⟨by show (12:Int)≠0;decide,rfl⟩
end Y
end Go.Proofs.YtllemifiammnnaaGreat
