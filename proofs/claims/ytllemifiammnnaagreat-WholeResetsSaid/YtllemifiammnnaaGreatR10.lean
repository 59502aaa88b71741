/- Part 10 of the proof. No condition. -/
import Derived.Test.YtllemifiammnnaaGreatR09
import Derived.Test.YtllemifiammnnaaGreatR07
import Derived.Test.YtllemifiammnnaaGreatR08
set_option linter.unusedVariables false
set_option linter.unusedSimpArgs false
set_option maxRecDepth 100000
set_option maxHeartbeats 4000000
namespace Go.Proofs.YtllemifiammnnaaGreat
namespace Y
open Go Go.RowKit Go.Sort
theorem partEqC(l:List W.Rt)(r:List Value)(n c:Nat)(x y z:Int)(hn:l.length=n)(h0:0≤x)(hz:x≤z)(hz2:z<y)(hb:y≤n)(hc:n≤1000000) :
  SortC rtC 13 211 n c l r [I x,I y,I z,cmpV] (fun v=>∃ p,v=I p∧x<p∧p≤y):=by
 obtain⟨a,rfl⟩:=Int.eq_ofNat_of_zero_le h0
 obtain⟨b,rfl⟩:=Int.eq_ofNat_of_zero_le (show 0≤y by omega)
 obtain⟨p,rfl⟩:=Int.eq_ofNat_of_zero_le (show 0≤z by omega)
 refine enterO tabOk (N:=90) (gs:=[_]) (args:=[_,_,_,_,_]) Tryz.func211 rfl rfl rfl (nLe rfl) (fun E hE=>?_)
 conv=>whnf
 repeat' ((first|with_reducible refine Ix.nat _ ?_|refine Pc.sym ?_|refine LdAt.row (e:=rtC) (n:=13) (fun _=>rfl) ⟨0,[]⟩ rfl _ (Nat.zero_add _) (by omega) ?_|refine StAt.el (e:=rtC) (n:=13) (fun _=>rfl) _ rfl rfl _ (Nat.zero_add _) (by first|omega|(simp only [List.length_set];omega)) ?_|(refine Drw.len 16 13 rfl rfl ?_;refine Drw.lateP tabOk [0,1,4,5,6,7,8,9,10,11,12] [2,3] [13,14,15] (by kernel_rfl) (by kernel_rfl) ?_)|refine Ob.mk (by omega) ?_|refine Ob.mk (by unfold W.I64 at *;omega) ?_);conv=>whnf)
 refine LoopAt.rule tabOk [(0,_),(1,_),(4,_)] (fun (q:Nat×Nat×List W.Rt)=>[(11,.int .i64 (q.1:Int)),(12,.int .i64 (q.2.1:Int))]) (fun (q:Nat×Nat×List W.Rt)=>[.blk (ar rtC q.2.2 r)]) (fun (q:Nat×Nat×List W.Rt)=>q.2.2.Perm l∧a+1≤q.1∧q.1≤b∧a≤q.2.1∧q.2.1<b) (fun (q:Nat×Nat×List W.Rt)=>q.2.1) (a+1,b-1,_) (by (repeat refine And.intro (by first|rfl|exact congrArg (fun z=>some (AV.int .i64 z)) (by first|omega|(dsimp only;omega))) ?_);exact trivial) ?_ (by (repeat refine And.intro (by first|rfl|exact congrArg (fun z=>some (AV.int .i64 z)) (by first|omega|(dsimp only;omega))) ?_);exact trivial) (by (repeat refine And.intro (by first|rfl|exact congrArg (fun z=>some (AV.int .i64 z)) (by first|omega|(dsimp only;omega))) ?_);exact trivial) (fun _=>⟨rfl,rfl,okArR,by simp [hE]⟩) (fun q hk=>?_)
 ·exact⟨swap_perm (W.Rt.mk 0 []) (by omega) (by omega),by dsimp only;omega,by dsimp only;omega,by dsimp only;omega,by dsimp only;omega⟩
 obtain⟨i',j',l3⟩:=q
 obtain⟨hp3,hi',hi2',hj',hj2'⟩:=hk
 dsimp only at hp3 hi' hi2' hj' hj2' ⊢
 have hl3:=hp3.length_eq
 conv=>whnf
 refine LoopAt.rule tabOk [(0,_),(1,_),(12,_),(4,_)] (fun (q:Nat×List W.Rt)=>[(11,.int .i64 (q.1:Int))]) (fun (q:Nat×List W.Rt)=>[.blk (ar rtC q.2 r)]) (fun (q:Nat×List W.Rt)=>q.2.Perm l∧a+1≤q.1∧q.1≤b) (fun (q:Nat×List W.Rt)=>b-q.1) (i',l3) (by (repeat refine And.intro (by first|rfl|exact congrArg (fun z=>some (AV.int .i64 z)) (by first|omega|(dsimp only;omega))) ?_);exact trivial) ⟨hp3,hi',hi2'⟩ (by (repeat refine And.intro (by first|rfl|exact congrArg (fun z=>some (AV.int .i64 z)) (by first|omega|(dsimp only;omega))) ?_);exact trivial) (by (repeat refine And.intro (by first|rfl|exact congrArg (fun z=>some (AV.int .i64 z)) (by first|omega|(dsimp only;omega))) ?_);exact trivial) (fun _=>⟨rfl,rfl,okArR,by simp [hE]⟩) (fun q hk=>?_)
 obtain⟨i2,l4⟩:=q
 obtain⟨hp4,hi3,hi4⟩:=hk
 dsimp only at hp4 hi3 hi4 ⊢
 have hl4:=hp4.length_eq
 conv=>whnf
 repeat' (first|((first|with_reducible refine Ix.nat _ ?_|refine Pc.sym ?_|refine LdAt.row (e:=rtC) (n:=13) (fun _=>rfl) ⟨0,[]⟩ rfl _ (Nat.zero_add _) (by omega) ?_|refine Br.pt (by assumption) ?_|refine Br.pf (by assumption) ?_|refine Br.of rfl ?_|refine CallX.pu (orderC _ _) rfl rfl ?_|refine Ob.mk (by omega) ?_|refine Ob.mk (by unfold W.I64 at *;omega) ?_|refine Drw.loose (by kernel_rfl) ?_);conv=>whnf)|((first|refine Br.d (fun h=>?_) (fun h=>?_)|refine Br.n (fun h=>?_) (fun h=>?_))<;>conv=>whnf))
 all_goals try exact Exists.intro (i2+1,l4) ⟨⟨hp4,by dsimp only;omega,by dsimp only;omega⟩,by dsimp only;omega,(by (repeat refine And.intro (by first|rfl|exact congrArg (fun z=>some (AV.int .i64 z)) (by first|omega|(dsimp only;omega))) ?_);exact trivial),(by trivial),(by trivial)⟩
 all_goals
  refine LoopAt.rule tabOk [(0,_),(1,_),(11,_),(4,_)] (fun (q:Nat×List W.Rt)=>[(12,.int .i64 (q.1:Int))]) (fun (q:Nat×List W.Rt)=>[.blk (ar rtC q.2 r)]) (fun (q:Nat×List W.Rt)=>q.2.Perm l∧a≤q.1∧q.1≤j') (fun (q:Nat×List W.Rt)=>q.1) (j',l4) (by (repeat refine And.intro (by first|rfl|exact congrArg (fun z=>some (AV.int .i64 z)) (by first|omega|(dsimp only;omega))) ?_);exact trivial) ⟨hp4,hj',Nat.le_refl _⟩ (by (repeat refine And.intro (by first|rfl|exact congrArg (fun z=>some (AV.int .i64 z)) (by first|omega|(dsimp only;omega))) ?_);exact trivial) (by (repeat refine And.intro (by first|rfl|exact congrArg (fun z=>some (AV.int .i64 z)) (by first|omega|(dsimp only;omega))) ?_);exact trivial) (fun _=>⟨rfl,rfl,okArR,by simp [hE]⟩) (fun q hk=>?_)
  obtain⟨j2,l5⟩:=q
  obtain⟨hp5,hj3,hj4⟩:=hk
  dsimp only at hp5 hj3 hj4 ⊢
  have hl5:=hp5.length_eq
  conv=>whnf
  repeat' (first|((first|with_reducible refine Ix.nat _ ?_|refine Pc.sym ?_|refine LdAt.row (e:=rtC) (n:=13) (fun _=>rfl) ⟨0,[]⟩ rfl _ (Nat.zero_add _) (by omega) ?_|refine StAt.el (e:=rtC) (n:=13) (fun _=>rfl) _ rfl rfl _ (Nat.zero_add _) (by first|omega|(simp only [List.length_set];omega)) ?_|(refine Drw.len 16 13 rfl rfl ?_;refine Drw.lateP tabOk [0,1,4,5,6,7,8,9,10,11,12] [2,3] [13,14,15] (by kernel_rfl) (by kernel_rfl) ?_)|refine Br.pt (by assumption) ?_|refine Br.pf (by assumption) ?_|refine Br.pt (by omega) ?_|refine Br.pf (by omega) ?_|refine Br.of rfl ?_|refine CallX.pu (orderC _ _) rfl rfl ?_|refine Ob.mk (by omega) ?_|refine Ob.mk (by unfold W.I64 at *;omega) ?_|refine Drw.loose (by kernel_rfl) ?_);conv=>whnf)|((refine Br.d (fun h=>?_) (fun h=>?_))<;>conv=>whnf))
  all_goals try exact Exists.intro (j2-1,l5) ⟨⟨hp5,by dsimp only;omega,by dsimp only;omega⟩,by dsimp only;omega,(by (repeat refine And.intro (by first|rfl|exact congrArg (fun z=>some (AV.int .i64 z)) (by first|omega|(dsimp only;omega))) ?_);exact trivial),(by trivial),(by trivial)⟩
  all_goals try refine FinAt.asis (ars:=[I _]) [] (RvL.pu rfl) (by simp) (by show 1≤_;simp) okArR ⟨⟨i2,rfl,by omega,by omega⟩,_,hp5,rfl⟩
  all_goals
   refine⟨(i2+1,j2-1,_),⟨?_,by dsimp only;omega,by dsimp only;omega,by dsimp only;omega,by dsimp only;omega⟩,by dsimp only;omega,(by (repeat refine And.intro (by first|rfl|exact congrArg (fun z=>some (AV.int .i64 z)) (by first|omega|(dsimp only;omega))) ?_);exact trivial),(by trivial),(by trivial)⟩
   exact(swap_perm (W.Rt.mk 0 []) (by omega) (by omega)).trans hp5
theorem partInsC(l:List W.Rt)(r:List Value)(n c:Nat)(x y:Int)(hn:l.length=n)(h0:0≤x)(hz:x<y)(hb:y≤n)(hc:n≤1000000) :
  SortC rtC 13 210 n c l r [I x,I y,cmpV] (fun v=>∃ p,v=.bool p):=by
 obtain⟨a,rfl⟩:=Int.eq_ofNat_of_zero_le h0
 obtain⟨b,rfl⟩:=Int.eq_ofNat_of_zero_le (show 0≤y by omega)
 refine enterO tabOk (N:=141) (gs:=[_]) (args:=[_,_,_,_]) Tryz.func210 rfl rfl rfl (nLe rfl) (fun E hE=>?_)
 conv=>whnf
 repeat' ((refine Ob.mk (by unfold W.I64 at *;omega) ?_);conv=>whnf)
 refine LoopAt.rule tabOk [(0,_),(1,_),(2,_),(3,_)] (fun (q:Nat×Nat×List W.Rt)=>[(9,.int .i64 (q.1:Int)),(10,.int .i64 (q.2.1:Int))]) (fun (q:Nat×Nat×List W.Rt)=>[.blk (ar rtC q.2.2 r)]) (fun (q:Nat×Nat×List W.Rt)=>q.2.2.Perm l∧a+1≤q.1∧q.1≤b∧q.2.1≤5) (fun (q:Nat×Nat×List W.Rt)=>5-q.2.1) (a+1,0,l) (by (repeat refine And.intro (by first|rfl|exact congrArg (fun z=>some (AV.int .i64 z)) (by first|omega|(dsimp only;omega))) ?_);exact trivial) ⟨.refl _,by dsimp only;omega,by dsimp only;omega,by dsimp only;omega⟩ (by (repeat refine And.intro (by first|rfl|exact congrArg (fun z=>some (AV.int .i64 z)) (by first|omega|(dsimp only;omega))) ?_);exact trivial) (by (repeat refine And.intro (by first|rfl|exact congrArg (fun z=>some (AV.int .i64 z)) (by first|omega|(dsimp only;omega))) ?_);exact trivial) (fun _=>⟨rfl,rfl,okArR,by simp [hE]⟩) (fun q hk=>?_)
 obtain⟨i',j',l3⟩:=q
 obtain⟨hp3,hi',hi2',hj'⟩:=hk
 dsimp only at hp3 hi' hi2' hj' ⊢
 have hl3:=hp3.length_eq
 conv=>whnf
 repeat' ((refine Br.d (fun h=>?_) (fun h=>?_))<;>conv=>whnf)
 all_goals try refine FinAt.asis (ars:=[.bool _]) [] (RvL.pu rfl) (by simp) (by show 1≤_;simp) okArR ⟨⟨_,rfl⟩,_,hp3,rfl⟩
 refine LoopAt.rule tabOk [(0,_),(1,_),(2,_),(10,_),(3,_)] (fun (q:Nat×List W.Rt)=>[(9,.int .i64 (q.1:Int))]) (fun (q:Nat×List W.Rt)=>[.blk (ar rtC q.2 r)]) (fun (q:Nat×List W.Rt)=>q.2.Perm l∧a+1≤q.1∧q.1≤b) (fun (q:Nat×List W.Rt)=>b-q.1) (i',l3) (by (repeat refine And.intro (by first|rfl|exact congrArg (fun z=>some (AV.int .i64 z)) (by first|omega|(dsimp only;omega))) ?_);exact trivial) ⟨hp3,hi',hi2'⟩ (by (repeat refine And.intro (by first|rfl|exact congrArg (fun z=>some (AV.int .i64 z)) (by first|omega|(dsimp only;omega))) ?_);exact trivial) (by (repeat refine And.intro (by first|rfl|exact congrArg (fun z=>some (AV.int .i64 z)) (by first|omega|(dsimp only;omega))) ?_);exact trivial) (fun _=>⟨rfl,rfl,okArR,by simp [hE]⟩) (fun q hk=>?_)
 obtain⟨i2,l4⟩:=q
 obtain⟨hp4,hi3,hi4⟩:=hk
 dsimp only at hp4 hi3 hi4 ⊢
 have hl4:=hp4.length_eq
 conv=>whnf
 repeat' (first|((first|with_reducible refine Ix.nat _ ?_|refine Ix.tn (by omega) ?_|refine Pc.sym ?_|refine LdAt.row (e:=rtC) (n:=13) (fun _=>rfl) ⟨0,[]⟩ rfl _ (Nat.zero_add _) (by omega) ?_|refine StAt.el (e:=rtC) (n:=13) (fun _=>rfl) _ rfl rfl _ (Nat.zero_add _) (by first|omega|(simp only [List.length_set];omega)) ?_|(refine Drw.len 18 15 rfl rfl ?_;refine Drw.lateP tabOk [0,1,5,6,7,8,9,10,11,12,13,14] [2,3,4] [15,16,17] (by kernel_rfl) (by kernel_rfl) ?_)|refine Br.pt (by assumption) ?_|refine Br.pf (by assumption) ?_|refine Br.pt (by omega) ?_|refine Br.pf (by omega) ?_|refine Br.of rfl ?_|refine CallX.pu (orderC _ _) rfl rfl ?_|refine Ob.mk (by omega) ?_|refine Ob.mk (by unfold W.I64 at *;omega) ?_|refine Drw.loose (by kernel_rfl) ?_);conv=>whnf)|((first|refine Br.d (fun h=>?_) (fun h=>?_)|refine Br.n (fun h=>?_) (fun h=>?_))<;>conv=>whnf))
 all_goals try exact Exists.intro (i2+1,l4) ⟨⟨hp4,by dsimp only;omega,by dsimp only;omega⟩,by dsimp only;omega,(by (repeat refine And.intro (by first|rfl|exact congrArg (fun z=>some (AV.int .i64 z)) (by first|omega|(dsimp only;omega))) ?_);exact trivial),(by trivial),(by trivial)⟩
 all_goals try refine FinAt.asis (ars:=[.bool _]) [] (RvL.pu rfl) (by simp) (by show 1≤_;simp) okArR ⟨⟨_,rfl⟩,_,hp4,rfl⟩
 ·refine LoopAt.rule tabOk [(0,_),(1,_),(2,_),(9,_),(10,_),(3,_)] (fun (q:Nat×List W.Rt)=>[(11,.int .i64 (q.1:Int))]) (fun (q:Nat×List W.Rt)=>[.blk (ar rtC q.2 r)]) (fun (q:Nat×List W.Rt)=>q.2.Perm l∧q.1<i2) (fun (q:Nat×List W.Rt)=>q.1) (i2-1,_) (by (repeat refine And.intro (by first|rfl|exact congrArg (fun z=>some (AV.int .i64 z)) (by first|omega|(dsimp only;omega))) ?_);exact trivial) ?_ (by (repeat refine And.intro (by first|rfl|exact congrArg (fun z=>some (AV.int .i64 z)) (by first|omega|(dsimp only;omega))) ?_);exact trivial) (by (repeat refine And.intro (by first|rfl|exact congrArg (fun z=>some (AV.int .i64 z)) (by first|omega|(dsimp only;omega))) ?_);exact trivial) (fun _=>⟨rfl,rfl,okArR,by simp [hE]⟩) (fun q hk=>?_)
  ·exact⟨(swap_perm (W.Rt.mk 0 []) (by omega) (by omega)).trans hp4,by dsimp only;omega⟩
  obtain⟨j1,l5⟩:=q
  obtain⟨hp5,hj1⟩:=hk
  dsimp only at hp5 hj1 ⊢
  have hl5:=hp5.length_eq
  conv=>whnf
  repeat' (first|((first|with_reducible refine Ix.nat _ ?_|refine Ix.tn (by omega) ?_|refine Pc.sym ?_|refine LdAt.row (e:=rtC) (n:=13) (fun _=>rfl) ⟨0,[]⟩ rfl _ (Nat.zero_add _) (by omega) ?_|refine StAt.el (e:=rtC) (n:=13) (fun _=>rfl) _ rfl rfl _ (Nat.zero_add _) (by first|omega|(simp only [List.length_set];omega)) ?_|(refine Drw.len 18 15 rfl rfl ?_;refine Drw.lateP tabOk [0,1,5,6,7,8,9,10,11,12,13,14] [2,3,4] [15,16,17] (by kernel_rfl) (by kernel_rfl) ?_)|refine CallX.pu (orderC _ _) rfl rfl ?_|refine Ob.mk (by omega) ?_|refine Ob.mk (by unfold W.I64 at *;omega) ?_|refine Drw.loose (by kernel_rfl) ?_);conv=>whnf)|((first|refine Br.d (fun h=>?_) (fun h=>?_)|refine Br.n (fun h=>?_) (fun h=>?_))<;>conv=>whnf))
  all_goals try
   refine Exists.intro (j1-1,_) ⟨⟨?_,by dsimp only;omega⟩,by dsimp only;omega,(by (repeat refine And.intro (by first|rfl|exact congrArg (fun z=>some (AV.int .i64 z)) (by first|omega|(dsimp only;omega))) ?_);exact trivial),(by trivial),(by trivial)⟩
   exact(swap_perm (W.Rt.mk 0 []) (by omega) (by omega)).trans hp5
  all_goals try exact Exists.intro (i2,j'+1,l5) ⟨⟨hp5,by dsimp only;omega,by dsimp only;omega,by dsimp only;omega⟩,by dsimp only;omega,(by (repeat refine And.intro (by first|rfl|exact congrArg (fun z=>some (AV.int .i64 z)) (by first|omega|(dsimp only;omega))) ?_);exact trivial),(by trivial),(by trivial)⟩
  all_goals
   refine LoopAt.rule tabOk [(0,_),(1,_),(2,_),(9,_),(10,_),(3,_)] (fun (q:Nat×List W.Rt)=>[(12,.int .i64 (q.1:Int))]) (fun (q:Nat×List W.Rt)=>[.blk (ar rtC q.2 r)]) (fun (q:Nat×List W.Rt)=>q.2.Perm l∧i2+1≤q.1∧q.1≤b) (fun (q:Nat×List W.Rt)=>b-q.1) (i2+1,_) (by (repeat refine And.intro (by first|rfl|exact congrArg (fun z=>some (AV.int .i64 z)) (by first|omega|(dsimp only;omega))) ?_);exact trivial) ?_ (by (repeat refine And.intro (by first|rfl|exact congrArg (fun z=>some (AV.int .i64 z)) (by first|omega|(dsimp only;omega))) ?_);exact trivial) (by (repeat refine And.intro (by first|rfl|exact congrArg (fun z=>some (AV.int .i64 z)) (by first|omega|(dsimp only;omega))) ?_);exact trivial) (fun _=>⟨rfl,rfl,okArR,by simp [hE]⟩) (fun q hk=>?_)
   ·exact⟨hp5,by dsimp only;omega,by dsimp only;omega⟩
   obtain⟨j2,l6⟩:=q
   obtain⟨hp6,hj3,hj4⟩:=hk
   dsimp only at hp6 hj3 hj4 ⊢
   have hl6:=hp6.length_eq
   conv=>whnf
   repeat' (first|((first|with_reducible refine Ix.nat _ ?_|refine Ix.tn (by omega) ?_|refine Pc.sym ?_|refine LdAt.row (e:=rtC) (n:=13) (fun _=>rfl) ⟨0,[]⟩ rfl _ (Nat.zero_add _) (by omega) ?_|refine StAt.el (e:=rtC) (n:=13) (fun _=>rfl) _ rfl rfl _ (Nat.zero_add _) (by first|omega|(simp only [List.length_set];omega)) ?_|(refine Drw.len 18 15 rfl rfl ?_;refine Drw.lateP tabOk [0,1,5,6,7,8,9,10,11,12,13,14] [2,3,4] [15,16,17] (by kernel_rfl) (by kernel_rfl) ?_)|refine CallX.pu (orderC _ _) rfl rfl ?_|refine Ob.mk (by omega) ?_|refine Ob.mk (by unfold W.I64 at *;omega) ?_|refine Drw.loose (by kernel_rfl) ?_);conv=>whnf)|((first|refine Br.d (fun h=>?_) (fun h=>?_)|refine Br.n (fun h=>?_) (fun h=>?_))<;>conv=>whnf))
   all_goals try
    refine Exists.intro (j2+1,_) ⟨⟨?_,by dsimp only;omega,by dsimp only;omega⟩,by dsimp only;omega,(by (repeat refine And.intro (by first|rfl|exact congrArg (fun z=>some (AV.int .i64 z)) (by first|omega|(dsimp only;omega))) ?_);exact trivial),(by trivial),(by trivial)⟩
    exact(swap_perm (W.Rt.mk 0 []) (by omega) (by omega)).trans hp6
   all_goals exact Exists.intro (i2,j'+1,l6) ⟨⟨hp6,by dsimp only;omega,by dsimp only;omega,by dsimp only;omega⟩,by dsimp only;omega,(by (repeat refine And.intro (by first|rfl|exact congrArg (fun z=>some (AV.int .i64 z)) (by first|omega|(dsimp only;omega))) ?_);exact trivial),(by trivial),(by trivial)⟩
 ·refine LoopAt.rule tabOk [(0,_),(1,_),(2,_),(9,_),(10,_),(3,_)] (fun (q:Nat×List W.Rt)=>[(12,.int .i64 (q.1:Int))]) (fun (q:Nat×List W.Rt)=>[.blk (ar rtC q.2 r)]) (fun (q:Nat×List W.Rt)=>q.2.Perm l∧i2+1≤q.1∧q.1≤b) (fun (q:Nat×List W.Rt)=>b-q.1) (i2+1,_) (by (repeat refine And.intro (by first|rfl|exact congrArg (fun z=>some (AV.int .i64 z)) (by first|omega|(dsimp only;omega))) ?_);exact trivial) ?_ (by (repeat refine And.intro (by first|rfl|exact congrArg (fun z=>some (AV.int .i64 z)) (by first|omega|(dsimp only;omega))) ?_);exact trivial) (by (repeat refine And.intro (by first|rfl|exact congrArg (fun z=>some (AV.int .i64 z)) (by first|omega|(dsimp only;omega))) ?_);exact trivial) (fun _=>⟨rfl,rfl,okArR,by simp [hE]⟩) (fun q hk=>?_)
  ·exact⟨(swap_perm (W.Rt.mk 0 []) (by omega) (by omega)).trans hp4,by dsimp only;omega,by dsimp only;omega⟩
  obtain⟨j2,l6⟩:=q
  obtain⟨hp6,hj3,hj4⟩:=hk
  dsimp only at hp6 hj3 hj4 ⊢
  have hl6:=hp6.length_eq
  conv=>whnf
  repeat' (first|((first|with_reducible refine Ix.nat _ ?_|refine Ix.tn (by omega) ?_|refine Pc.sym ?_|refine LdAt.row (e:=rtC) (n:=13) (fun _=>rfl) ⟨0,[]⟩ rfl _ (Nat.zero_add _) (by omega) ?_|refine StAt.el (e:=rtC) (n:=13) (fun _=>rfl) _ rfl rfl _ (Nat.zero_add _) (by first|omega|(simp only [List.length_set];omega)) ?_|(refine Drw.len 18 15 rfl rfl ?_;refine Drw.lateP tabOk [0,1,5,6,7,8,9,10,11,12,13,14] [2,3,4] [15,16,17] (by kernel_rfl) (by kernel_rfl) ?_)|refine CallX.pu (orderC _ _) rfl rfl ?_|refine Ob.mk (by omega) ?_|refine Ob.mk (by unfold W.I64 at *;omega) ?_|refine Drw.loose (by kernel_rfl) ?_);conv=>whnf)|((first|refine Br.d (fun h=>?_) (fun h=>?_)|refine Br.n (fun h=>?_) (fun h=>?_))<;>conv=>whnf))
  all_goals try
   refine Exists.intro (j2+1,_) ⟨⟨?_,by dsimp only;omega,by dsimp only;omega⟩,by dsimp only;omega,(by (repeat refine And.intro (by first|rfl|exact congrArg (fun z=>some (AV.int .i64 z)) (by first|omega|(dsimp only;omega))) ?_);exact trivial),(by trivial),(by trivial)⟩
   exact(swap_perm (W.Rt.mk 0 []) (by omega) (by omega)).trans hp6
  all_goals exact Exists.intro (i2,j'+1,l6) ⟨⟨hp6,by dsimp only;omega,by dsimp only;omega,by dsimp only;omega⟩,by dsimp only;omega,(by (repeat refine And.intro (by first|rfl|exact congrArg (fun z=>some (AV.int .i64 z)) (by first|omega|(dsimp only;omega))) ?_);exact trivial),(by trivial),(by trivial)⟩
theorem breakC(l:List W.Rt)(r:List Value)(n c:Nat)(x y:Int)(hn:l.length=n)(h0:0≤x)(hz:x≤y)(hb:y≤n)(hc:n≤255) :
  SortC rtC 13 207 n c l r [I x,I y,cmpV] (·=.tup []):=by
 obtain⟨a,rfl⟩:=Int.eq_ofNat_of_zero_le h0
 obtain⟨b,rfl⟩:=Int.eq_ofNat_of_zero_le (show 0≤y by omega)
 refine enterO tabOk (N:=67) (gs:=[_]) (args:=[_,_,_,_]) Tryz.func207 rfl rfl rfl (nLe rfl) (fun E hE=>?_)
 conv=>whnf
 repeat' (first|((refine Ob.mk (by unfold W.I64 at *;omega) ?_);conv=>whnf)|((refine Br.d (fun h=>?_) (fun h=>?_))<;>conv=>whnf))
 rotate_left
 ·exact FinAt.asis (ars:=[]) [] RvL.nil (by simp) (by show 1≤_;simp) okArR ⟨rfl,l,.refl _,rfl⟩
 refine CallS.call (CallN.puP (nextPow ((b:Int)-a) (by omega) (by omega)) rfl (fun m hm=>?_))
 obtain⟨m,rfl,hm1,hm2⟩:=hm
 conv=>whnf
 repeat' ((refine Ob.mk (by unfold W.I64 at *;omega) ?_);conv=>whnf)
 refine LoopAt.rule tabOk [(0,_),(1,_),(8,_),(9,_),(10,_)] (fun (q:Nat×Int×List W.Rt)=>[(11,.int .i64 (q.1:Int))]) (fun (q:Nat×Int×List W.Rt)=>[.blk (ar rtC q.2.2 r),.blk [.int .u64 q.2.1]]) (fun (q:Nat×Int×List W.Rt)=>q.2.2.Perm l∧(a:Int)≤q.1∧(q.1:Int)≤a+((b:Int)-a)/4*2+2) (fun (q:Nat×Int×List W.Rt)=>(a+(b-a)/4*2+2)-q.1) (a+(b-a)/4*2-1,_,l) (by (repeat refine And.intro (by first|rfl|exact congrArg (fun z=>some (AV.int .i64 z)) (by first|omega|(dsimp only;omega))) ?_);exact trivial) ⟨.refl _,by dsimp only;omega,by dsimp only;omega⟩ (by (repeat refine And.intro (by first|rfl|exact congrArg (fun z=>some (AV.int .i64 z)) (by first|omega|(dsimp only;omega))) ?_);exact trivial) (by (repeat refine And.intro (by first|rfl|exact congrArg (fun z=>some (AV.int .i64 z)) (by first|omega|(dsimp only;omega))) ?_);exact trivial) (fun _=>⟨rfl,rfl,okArR2 rfl,by simp [hE]⟩) (fun q hk=>?_)
 obtain⟨q,y,l1⟩:=q
 obtain⟨hp,hq,hq2⟩:=hk
 dsimp only at hp hq hq2 ⊢
 have hl1:=hp.length_eq
 conv=>whnf
 repeat' (first|((refine Ob.mk (by unfold W.I64 at *;omega) ?_);conv=>whnf)|((refine Br.d (fun h=>?_) (fun h=>?_))<;>conv=>whnf))
 rotate_left
 ·exact FinAt.asis (ars:=[]) [] RvL.nil (by simp) (by show 1≤_;simp) okArR ⟨rfl,l1,hp,rfl⟩
 refine CallS.call (CallN.upd [1] [] (RvJL.cons (RvJ.ownP rfl) RvJL.nil) (Als.nil _) (by simp) (Giv.one rfl (by simp) (RcJ.pu rfl)) (xorNext y) (fun v gs ⟨y',h1,h2,h3,h4⟩ _=>?_))
 subst h1
 subst h4
 have hw:IntKind.u64.wrap (m-1)=m-1:=wrap_u64_id (by omega) (by omega)
 conv=>whnf
 repeat' (first|((first|with_reducible refine Ix.nat _ ?_|refine Ix.tn (by omega) ?_|refine Pc.sym ?_|refine LdAt.row (e:=rtC) (n:=13) (fun _=>rfl) ⟨0,[]⟩ rfl _ (Nat.zero_add _) (by omega) ?_|refine StAt.el (e:=rtC) (n:=13) (fun _=>rfl) _ rfl rfl _ (Nat.zero_add _) (by first|omega|(simp only [List.length_set];omega)) ?_|(refine Drw.len 20 17 rfl rfl ?_;refine Drw.lateP tabOk [0,1,6,7,8,9,10,11,12,13,14,15,16] [2,3,4,5] [17,18,19] (by kernel_rfl) (by kernel_rfl) ?_)|refine QAt.andU rfl rfl rfl (by rw [hw];omega) (by rw [hw];omega) (fun z hz0 hz1=>?_)|refine Ob.mk (by omega) ?_|refine Ob.mk (by unfold W.I64 at *;omega) ?_);conv=>whnf)|((refine Br.d (fun h=>?_) (fun h=>?_))<;>conv=>whnf))
 all_goals
  rw [hw] at hz1
  refine⟨(q+1,y',_),⟨?_,by dsimp only;omega,by dsimp only;omega⟩,by dsimp only;omega,(by (repeat refine And.intro (by first|rfl|exact congrArg (fun z=>some (AV.int .i64 z)) (by first|omega|(dsimp only;omega))) ?_);exact trivial),(by trivial),(by trivial)⟩
  exact(swap_perm (W.Rt.mk 0 []) (by omega) (by omega)).trans hp
theorem order2C(l:List W.Rt)(r:List Value)(n c:Nat)(k x y:Int)(hn:l.length=n)(h0:0≤x)(hx:x<n)(h1:0≤y)(hy:y<n)(hk:0≤k)(hk2:k≤1000) :
  CntC rtC 13 237 n c l r k 1 [I x,I y,.own 1 0,cmpV] (fun v=>v=.tup [I x,I y]∨v=.tup [I y,I x]):=by
 obtain⟨a,rfl⟩:=Int.eq_ofNat_of_zero_le h0
 obtain⟨b,rfl⟩:=Int.eq_ofNat_of_zero_le h1
 refine enterO tabOk (N:=32) (gs:=[_,_]) (args:=[_,_,_,_,_]) Tryz.func237 rfl rfl rfl (nLe rfl) (fun E hE=>?_)
 conv=>whnf
 repeat' (first|((first|with_reducible refine Ix.nat _ ?_|refine Pc.sym ?_|refine LdAt.row (e:=rtC) (n:=13) (fun _=>rfl) ⟨0,[]⟩ rfl _ (Nat.zero_add _) (by omega) ?_|refine CallX.pu (orderC _ _) rfl rfl ?_|refine Ob.mk (by omega) ?_|refine Ob.mk (by unfold W.I64 at *;omega) ?_|refine Drw.loose (by kernel_rfl) ?_);conv=>whnf)|((refine Br.d (fun h=>?_) (fun h=>?_))<;>conv=>whnf))
 ·exact FinAt.asis (ars:=[I _,I _]) [] (RvL.pu rfl) (by simp) (by show 2≤_;simp) (okArR2 rfl) ⟨.inr rfl,k+1,by omega,by omega,rfl⟩
 ·exact FinAt.asis (ars:=[I _,I _]) [] (RvL.pu rfl) (by simp) (by show 2≤_;simp) (okArR2 rfl) ⟨.inl rfl,k,by omega,by omega,rfl⟩
theorem medianC(l:List W.Rt)(r:List Value)(n c:Nat)(k x y z:Int)(hn:l.length=n)(h0:0≤x)(hx:x<n)(h1:0≤y)(hy:y<n)(h2:0≤z)(hz:z<n)(hk:0≤k)(hk2:k≤900) :
  CntC rtC 13 224 n c l r k 3 [I x,I y,I z,.own 1 0,cmpV] (fun v=>∃ p,v=I p∧(p=x∨p=y∨p=z)):=by
 refine enterO tabOk (N:=41) (gs:=[_,_]) (args:=[_,_,_,_,_,_]) Tryz.func224 rfl rfl rfl (nLe rfl) (fun E hE=>?_)
 conv=>whnf
 refine CallS.cnt (order2C l r n c k _ _ hn (by omega) (by omega) (by omega) (by omega) (by omega) (by omega)) (RvJL.cons (RvJ.pu rfl) (RvJL.cons (RvJ.pu rfl) (RvJL.cons (RvJ.ownP rfl) (RvJL.cons (RvJ.pu rfl) RvJL.nil)))) (fun _=>rfl) (fun _=>rfl) (fun v k1 hv hk1 hk1'=>?_)
 rcases hv with rfl|rfl
 all_goals
  conv=>whnf
  refine CallS.cnt (order2C l r n c k1 _ _ hn (by omega) (by omega) (by omega) (by omega) (by omega) (by omega)) (RvJL.cons (RvJ.pu rfl) (RvJL.cons (RvJ.pu rfl) (RvJL.cons (RvJ.ownP rfl) (RvJL.cons (RvJ.pu rfl) RvJL.nil)))) (fun _=>rfl) (fun _=>rfl) (fun v k2 hv hk2 hk2'=>?_)
  rcases hv with rfl|rfl
 all_goals
  conv=>whnf
  refine CallS.cnt (order2C l r n c k2 _ _ hn (by omega) (by omega) (by omega) (by omega) (by omega) (by omega)) (RvJL.cons (RvJ.pu rfl) (RvJL.cons (RvJ.pu rfl) (RvJL.cons (RvJ.ownP rfl) (RvJL.cons (RvJ.pu rfl) RvJL.nil)))) (fun _=>rfl) (fun _=>rfl) (fun v k3 hv hk3 hk3'=>?_)
  rcases hv with rfl|rfl
 all_goals
  conv=>whnf
  exact FinAt.asis (ars:=[I _]) [] (RvL.pu rfl) (by simp) (by show 2≤_;simp) (okArR2 rfl) ⟨⟨_,rfl,by simp⟩,k3,by omega,by omega,rfl⟩
theorem medAdjC(l:List W.Rt)(r:List Value)(n c:Nat)(k x:Int)(hn:l.length=n)(h0:1≤x)(hx:x+1<n)(hk:0≤k)(hk2:k≤900)(hc:n≤1000000) :
  CntC rtC 13 223 n c l r k 3 [I x,.own 1 0,cmpV] (fun v=>∃ p,v=I p∧x-1≤p∧p≤x+1):=by
 refine enterO tabOk (N:=18) (gs:=[_,_]) (args:=[_,_,_,_]) Tryz.func223 rfl rfl rfl (nLe rfl) (fun E hE=>?_)
 conv=>whnf
 repeat' ((refine Ob.mk (by unfold W.I64 at *;omega) ?_);conv=>whnf)
 refine CallS.cnt (medianC l r n c k _ _ _ hn (by omega) (by omega) (by omega) (by omega) (by omega) (by omega) (by omega) (by omega)) (RvJL.cons (RvJ.pu rfl) (RvJL.cons (RvJ.pu rfl) (RvJL.cons (RvJ.pu rfl) (RvJL.cons (RvJ.ownP rfl) (RvJL.cons (RvJ.pu rfl) RvJL.nil))))) (fun _=>rfl) (fun _=>rfl) (fun v k1 hv hk1 hk1'=>?_)
 obtain⟨p,rfl,hp⟩:=hv
 conv=>whnf
 exact FinAt.asis (ars:=[I _]) [] (RvL.pu rfl) (by simp) (by show 2≤_;simp) (okArR2 rfl) ⟨⟨p,rfl,by omega,by omega⟩,k1,by omega,by omega,rfl⟩
theorem pivotC(l:List W.Rt)(r:List Value)(n c:Nat)(x y:Int)(hn:l.length=n)(h0:0≤x)(hx:x<y)(hy:y≤n)(hc:n≤1000000) :
  SortC rtC 13 208 n c l r [I x,I y,cmpV] (fun v=>∃ p h,v=.tup [I p,I h]∧x≤p∧p<y):=by
 have fin:∀ (p h k:Int),x≤p→p<y→FinAt 1 [I p,I h] [.blk (ar rtC l r),.blk [I k]] (fun v gs=>(∃ p h,v=.tup [I p,I h]∧x≤p∧p<y)∧∃ l',l'.Perm l∧gs=[.blk (ar rtC l' r)]):=fun p h k h1 h2=>FinAt.asis (ars:=[I _,I _]) [] (RvL.pu rfl) (by simp) (by show 1≤_;simp) okArR ⟨⟨p,h,rfl,h1,h2⟩,l,.refl _,rfl⟩
 refine enterO tabOk (N:=63) (gs:=[_]) (args:=[_,_,_,_]) Tryz.func208 rfl rfl rfl (nLe rfl) (fun E hE=>?_)
 conv=>whnf
 repeat' (first|((first|refine Br.pt (by omega) ?_|refine Ob.mk (by unfold W.I64 at *;omega) ?_);conv=>whnf)|((refine Br.d (fun h=>?_) (fun h=>?_))<;>conv=>whnf))
 ·refine CallS.cnt (medAdjC l r n c 0 _ hn (by omega) (by omega) (by omega) (by omega) hc) (RvJL.cons (RvJ.pu rfl) (RvJL.cons (RvJ.ownP rfl) (RvJL.cons (RvJ.pu rfl) RvJL.nil))) (fun _=>rfl) (fun _=>rfl) (fun v k1 hv hk1 hk1'=>?_)
  obtain⟨p1,rfl,hp1,hp1'⟩:=hv
  conv=>whnf
  refine CallS.cnt (medAdjC l r n c k1 _ hn (by omega) (by omega) (by omega) (by omega) hc) (RvJL.cons (RvJ.pu rfl) (RvJL.cons (RvJ.ownP rfl) (RvJL.cons (RvJ.pu rfl) RvJL.nil))) (fun _=>rfl) (fun _=>rfl) (fun v k2 hv hk2 hk2'=>?_)
  obtain⟨p2,rfl,hp2,hp2'⟩:=hv
  conv=>whnf
  refine CallS.cnt (medAdjC l r n c k2 _ hn (by omega) (by omega) (by omega) (by omega) hc) (RvJL.cons (RvJ.pu rfl) (RvJL.cons (RvJ.ownP rfl) (RvJL.cons (RvJ.pu rfl) RvJL.nil))) (fun _=>rfl) (fun _=>rfl) (fun v k3 hv hk3 hk3'=>?_)
  obtain⟨p3,rfl,hp3,hp3'⟩:=hv
  conv=>whnf
  refine CallS.cnt (medianC l r n c k3 _ _ _ hn (by omega) (by omega) (by omega) (by omega) (by omega) (by omega) (by omega) (by omega)) (RvJL.cons (RvJ.pu rfl) (RvJL.cons (RvJ.pu rfl) (RvJL.cons (RvJ.pu rfl) (RvJL.cons (RvJ.ownP rfl) (RvJL.cons (RvJ.pu rfl) RvJL.nil))))) (fun _=>rfl) (fun _=>rfl) (fun v k4 hv hk4 hk4'=>?_)
  obtain⟨p4,rfl,hp4⟩:=hv
  conv=>whnf
  repeat' ((refine Br.d (fun h=>?_) (fun h=>?_))<;>conv=>whnf)
  all_goals exact fin _ _ _ (by omega) (by omega)
 ·refine CallS.cnt (medianC l r n c 0 _ _ _ hn (by omega) (by omega) (by omega) (by omega) (by omega) (by omega) (by omega) (by omega)) (RvJL.cons (RvJ.pu rfl) (RvJL.cons (RvJ.pu rfl) (RvJL.cons (RvJ.pu rfl) (RvJL.cons (RvJ.ownP rfl) (RvJL.cons (RvJ.pu rfl) RvJL.nil))))) (fun _=>rfl) (fun _=>rfl) (fun v k4 hv hk4 hk4'=>?_)
  obtain⟨p4,rfl,hp4⟩:=hv
  conv=>whnf
  repeat' (first|((refine Br.pf (by omega) ?_);conv=>whnf)|((refine Br.d (fun h=>?_) (fun h=>?_))<;>conv=>whnf))
  all_goals exact fin _ _ _ (by omega) (by omega)
 all_goals exact fin _ _ _ (by omega) (by omega)
theorem pdqC:∀ (m:Nat) (l:List W.Rt) (r:List Value) (n c:Nat) (x y z:Int) (hn:l.length=n) (h0:0≤x) (hx:x≤y) (hy:y≤n) (hc:n≤255) (hz:0≤z) (hz2:z≤1000) (hm:y-x<m),
  SortC rtC 13 196 n c l r [I x,I y,I z,cmpV] (·=.tup [])
 |0,_,_,_,_,_,_,_,_,_,_,_,_,_,_,hm=>by omega
 |m+1,l,r,n,c,x,y,z,hn,h0,hx,hy,hc,hz,hz2,hm=>by
  refine enterO tabOk (N:=148) (gs:=[_]) (args:=[_,_,_,_,_]) Tryz.func196 rfl rfl rfl (nLe rfl) (fun E hE=>?_)
  conv=>whnf
  refine LoopAt.rule tabOk [(0,_),(4,_)] (fun (q:Int×Int×Int×Bool×Bool×List W.Rt)=>[(1,.int .i64 q.1),(2,.int .i64 q.2.1),(3,.int .i64 q.2.2.1),(10,.bool q.2.2.2.1),(11,.bool q.2.2.2.2.1)]) (fun (q:Int×Int×Int×Bool×Bool×List W.Rt)=>[.blk (ar rtC q.2.2.2.2.2 r)]) (fun (q:Int×Int×Int×Bool×Bool×List W.Rt)=>q.2.2.2.2.2.Perm l∧x≤q.1∧q.1≤q.2.1∧q.2.1≤y∧0≤q.2.2.1∧q.2.2.1≤1000) (fun (q:Int×Int×Int×Bool×Bool×List W.Rt)=>(q.2.1-q.1).toNat) (x,y,z,true,true,l) (by (repeat refine And.intro (by first|rfl|exact congrArg (fun z=>some (AV.int .i64 z)) (by first|omega|(dsimp only;omega))) ?_);exact trivial) ⟨.refl _,Int.le_refl _,hx,Int.le_refl _,hz,hz2⟩ (by (repeat refine And.intro (by first|rfl|exact congrArg (fun z=>some (AV.int .i64 z)) (by first|omega|(dsimp only;omega))) ?_);exact trivial) (by (repeat refine And.intro (by first|rfl|exact congrArg (fun z=>some (AV.int .i64 z)) (by first|omega|(dsimp only;omega))) ?_);exact trivial) (fun _=>⟨rfl,rfl,okArR,by simp [hE]⟩) (fun q hk=>?_)
  obtain⟨a,b,d,b1,b2,l1⟩:=q
  obtain⟨hp,ha,hab,hb,hd,hd2⟩:=hk
  dsimp only at hp ha hab hb hd hd2 ⊢
  have hl1:=hp.length_eq
  conv=>whnf
  repeat' (first|((first|refine Ix.tn (by omega) ?_|refine Pc.sym ?_|refine LdAt.row (e:=rtC) (n:=13) (fun _=>rfl) ⟨0,[]⟩ rfl _ (Nat.zero_add _) (by omega) ?_|refine CallS.srtP (insertC _ r n c _ _ (by omega) (by omega) (by omega) (by omega) (by omega)) (by assumption) rfl (fun _=>rfl) (fun _=>rfl) (fun x l' hx hp' hl'=>?_);obtain rfl:=hx|refine CallS.srtP (heapC _ r n c _ _ (by omega) (by omega) (by omega) (by omega) (by omega)) (by assumption) rfl (fun _=>rfl) (fun _=>rfl) (fun x l' hx hp' hl'=>?_);obtain rfl:=hx|refine CallS.srtP (breakC _ r n c _ _ (by omega) (by omega) (by omega) (by omega) (by omega)) (by assumption) rfl (fun _=>rfl) (fun _=>rfl) (fun x l' hx hp' hl'=>?_);obtain rfl:=hx|refine CallS.srtP (pivotC _ r n c _ _ (by omega) (by omega) (by omega) (by omega) (by omega)) (by assumption) rfl (fun _=>rfl) (fun _=>rfl) (fun x l' hx hp' hl'=>?_);obtain⟨p,h,rfl,hp1,hp2⟩:=hx|refine CallS.srtP (revC _ r n c _ _ (by omega) (by omega) (by omega) (by omega) (by omega)) (by assumption) rfl (fun _=>rfl) (fun _=>rfl) (fun x l' hx hp' hl'=>?_);obtain rfl:=hx|refine CallS.srtP (partInsC _ r n c _ _ (by omega) (by omega) (by omega) (by omega) (by omega)) (by assumption) rfl (fun _=>rfl) (fun _=>rfl) (fun x l' hx hp' hl'=>?_);obtain⟨p,rfl⟩:=hx|refine CallS.srtP (partEqC _ r n c _ _ _ (by omega) (by omega) (by omega) (by omega) (by omega) (by omega)) (by assumption) rfl (fun _=>rfl) (fun _=>rfl) (fun x l' hx hp' hl'=>?_);obtain⟨p,rfl,hp1,hp2⟩:=hx|refine CallS.srtP (partC _ r n c _ _ _ (by omega) (by omega) (by omega) (by omega) (by omega) (by omega)) (by assumption) rfl (fun _=>rfl) (fun _=>rfl) (fun x l' hx hp' hl'=>?_);obtain⟨p,b,rfl,hp1,hp2⟩:=hx|refine CallS.srtP (pdqC m _ r n c _ _ _ (by omega) (by omega) (by omega) (by omega) (by omega) (by omega) (by omega) (by omega)) (by assumption) rfl (fun _=>rfl) (fun _=>rfl) (fun x l' hx hp' hl'=>?_);obtain rfl:=hx|refine Br.ot (by assumption) ?_|refine Br.of (by assumption) ?_|refine Br.pt (by assumption) ?_|refine Br.pf (by assumption) ?_|refine Br.pt (by omega) ?_|refine Br.pf (by omega) ?_|refine Br.of rfl ?_|refine CallX.pu (orderC _ _) rfl rfl ?_|refine Ob.mk (by omega) ?_|refine Ob.mk (by unfold W.I64 at *;omega) ?_|refine Ob.mk (by simp only [Option.getD_some,Option.getD_none];omega) ?_|refine Drw.loose (by kernel_rfl) ?_);conv=>whnf)|((first|refine Br.d (fun h=>?_) (fun h=>?_)|refine Br.n (fun h=>?_) (fun h=>?_)|refine Br.mk (fun h=>?_) (fun h=>?_))<;>conv=>whnf))
  all_goals first
   |exact FinAt.asis (ars:=[]) [] RvL.nil (by simp) (by show 1≤_;simp) okArR ⟨rfl,_,(by assumption),rfl⟩
   |(
     refine Exists.intro (_,_,_,_,_,_) ⟨?_,?_,(by trivial),(by trivial),(by trivial)⟩
     ·refine⟨by assumption,?_,?_,?_,?_,?_⟩<;>dsimp only<;>omega
     ·dsimp only;omega)
theorem sortC(l:List W.Rt)(r:List Value)(n c:Nat)(hn:l.length=n)(h0:0<n)(hc:n≤255) :
  SortC rtC 13 183 n c l r [cmpV] (·=.tup []):=by
 refine enterO tabOk (N:=14) (gs:=[_]) (args:=[_,_]) Tryz.func183 rfl rfl rfl (nLe rfl) (fun E hE=>?_)
 have hw:IntKind.u64.wrap (n:Int)=n:=wrap_u64_id (by omega) (by omega)
 conv=>whnf
 refine CallS.call (CallN.puP (by rw [hw];exact bitsLen n (by omega) (by omega)) rfl (fun v hv=>?_))
 obtain⟨q,rfl,h2,h3,h4⟩:=hv
 conv=>whnf
 refine CallS.srt (pdqC (n+1) l r n c _ _ _ hn (by omega) (by omega) (by omega) hc (by omega) (by omega) (by omega)) rfl (fun _=>rfl) (fun _=>rfl) (fun x l' hx hp=>?_)
 subst hx
 conv=>whnf
 exact FinAt.asis (ars:=[]) [] RvL.nil (by simp) (by show 1≤_;simp) okArR ⟨rfl,_,hp,rfl⟩
theorem LoopAt.empC{P:Program}{N:Nat}{E:En}{c:Code}{K:Exit→Tm→Ow→Prop}{tm:Tm}{own:Ow}(i k e sz:Nat){cs:List AV}(hi:nth own i=some (.blk cs))(hk:nth cs k=some .emp)
  (h:LoopAt P N E c K tm (own.set i (.blk (cs.set k (.gro own.length 0)))++[.buf e sz []])):LoopAt P N E c K tm own:=by
 refine⟨⟨fun S ids a n hs=>?_⟩⟩
 have h1:=hs.emp e sz
 have hi':nth (own++[OB.buf e sz []]) i=some (.blk cs):=by rw [nth_append_old _ (nth_lt hi)];exact hi
 have h2:=h1.recell hi' (cs':=cs.set k (.gro own.length 0)) fun vs hv=>hv.setAt (fun b hb=>by
  obtain rfl:b=.slice none 0 0:=hb
  exact⟨_,by rw [← hs.len,nth_append_new],rfl,Nat.le_refl _,⟨none,0,0,rfl⟩,fun _=>rfl⟩) hk
 have e:(own++[OB.buf e sz []]).set i (.blk (cs.set k (.gro own.length 0)))=own.set i (.blk (cs.set k (.gro own.length 0)))++[.buf e sz []]:=by
  rw [List.set_append_left _ _ (nth_lt hi)]
 rw [e] at h2
 exact h.out.out S _ a n h2
theorem insertCE:Ret Tryz.prog 205 [.emp,I 0,I 0,cmpV] (·=.tup []):=by
 refine enterO tabOk (N:=53) (gs:=[]) (args:=[_,_,_,_]) Tryz.func205 rfl rfl rfl (nLe rfl) (fun E hE=>?_)
 conv=>whnf
 repeat' ((refine Ob.mk (by unfold W.I64 at *;omega) ?_);conv=>whnf)
 refine LoopAt.rule tabOk [(2,_)] (fun (k:Nat)=>[(8,.int .i64 1)]) (fun (k:Nat)=>[]) (fun (k:Nat)=>True) (fun (k:Nat)=>0) 0 (by trivial) trivial (by trivial) (by trivial) (fun _=>⟨rfl,rfl,rfl,by simp [hE]⟩) (fun k hk=>?_)
 conv=>whnf
 repeat' ((first|refine Br.nf (by assumption) ?_|refine FinAt.val rfl ?_);conv=>whnf)
 rfl
theorem pdqCE(q:Int):Ret Tryz.prog 196 [.emp,I 0,I 0,I q,cmpV] (·=.tup []):=by
 refine enterO tabOk (N:=148) (gs:=[]) (args:=[_,_,_,_,_]) Tryz.func196 rfl rfl rfl (nLe rfl) (fun E hE=>?_)
 conv=>whnf
 refine LoopAt.rule tabOk [(0,_),(1,_),(2,_),(4,_)] (fun (k:Nat)=>[]) (fun (k:Nat)=>[]) (fun (k:Nat)=>True) (fun (k:Nat)=>0) 0 (by trivial) trivial (by trivial) (by trivial) (fun _=>⟨rfl,rfl,rfl,by simp [hE]⟩) (fun k hk=>?_)
 conv=>whnf
 repeat' ((first|refine Br.pt (by omega) ?_|refine CallS.q (insertCE) rfl ?_|refine Ob.mk (by unfold W.I64 at *;omega) ?_|refine FinAt.val rfl ?_);conv=>whnf)
 rfl
theorem sortCE:Ret Tryz.prog 183 [.emp,cmpV] (·=.tup []):=by
 refine enterO tabOk (N:=14) (gs:=[]) (args:=[_,_]) Tryz.func183 rfl rfl rfl (nLe rfl) (fun E hE=>?_)
 conv=>whnf
 refine CallS.call (CallN.puP (f:=197) (post:=fun v=>∃ q:Int,v=I q∧0≤q∧q≤8) ?_ rfl (fun v hv=>?_))
 ·show Ret Tryz.prog 197 [.int .u64 0] _
  refine enterO tabOk (N:=8) (gs:=[]) (args:=[_]) Tryz.func197 rfl rfl rfl (nLe rfl) (fun E hE=>?_)
  conv=>whnf
  repeat' ((refine Br.of rfl ?_);conv=>whnf)
  refine CallS.call (CallN.puP lenZ rfl (fun r hr=>?_))
  obtain⟨q,rfl,h2⟩:=hr
  conv=>whnf
  repeat' ((refine FinAt.val rfl ?_);conv=>whnf)
  exact⟨q,rfl,h2⟩
 ·obtain⟨q,rfl,h2,h3⟩:=hv
  conv=>whnf
  repeat' ((first|refine CallS.q (pdqCE q) rfl ?_|refine FinAt.val rfl ?_);conv=>whnf)
  rfl
def freeN(is:List Nat):Nat→Nat
 |0=>0
 |n+1=>freeN is n+if n∈is then 0 else 1
theorem freeN_nil:∀ n,freeN [] n=n
 |0=>rfl
 |n+1=>by simp [freeN,freeN_nil n]
theorem freeN_ge(is:List Nat)(i:Nat):∀ n,n≤i→freeN (is++[i]) n=freeN is n
 |0,_=>rfl
 |n+1,h=>by
  have:n≠i:=by omega
  simp [freeN,freeN_ge is i n (by omega),this]
theorem freeN_add(is:List Nat)(i:Nat)(hi:¬ i∈is):∀ n,i<n→freeN (is++[i]) n+1=freeN is n
 |0,h=>by omega
 |n+1,h=>by
  by_cases e:n=i
  ·subst e
   have:=freeN_ge is n n (Nat.le_refl _)
   simp [freeN,this,hi]
  ·have h1:=freeN_add is i hi n (by omega)
   simp only [freeN,List.mem_append,List.mem_singleton,e,or_false]
   omega
theorem perm_mem{α:Type}[DecidableEq α]:∀ {a b:List α},a.Nodup→b.Nodup→(∀ x,x∈a↔x∈b)→a.Perm b
 |[],b,_,_,h=>by
  cases b with
  |nil=>exact .refl _
  |cons y b=>exact absurd ((h y).2 List.mem_cons_self) (by simp)
 |x::a,b,ha,hb,h=>by
  have hx:x∈b:=(h x).1 List.mem_cons_self
  have hp:=List.perm_cons_erase hx
  have hn:=(List.nodup_cons.1 ha)
  refine .trans (.cons x ?_) hp.symm
  refine perm_mem hn.2 (hb.erase x) fun y=>?_
  constructor
  ·intro hy
   have:y≠x:=fun e=>hn.1 (e ▸ hy)
   exact(List.mem_erase_of_ne this).2 ((h y).1 (List.mem_cons_of_mem _ hy))
  ·intro hy
   have hne:y≠x:=fun e=>by
    subst e
    exact absurd hy (List.Nodup.not_mem_erase hb)
   have:=(h y).2 (List.mem_of_mem_erase hy)
   rcases List.mem_cons.1 this with e|e
   ·exact absurd e hne
   ·exact e
theorem nodup_range(n:Nat):(List.range n).Nodup:=List.nodup_range
def pick(l:List W.Rt)(is:List Nat):List W.Rt:=is.map fun i=>l.getD i ⟨0,[]⟩
theorem pick_all(l:List W.Rt):pick l (List.range l.length)=l:=by
 unfold pick
 apply List.ext_getElem?
 intro k
 rw [List.getElem?_map]
 by_cases h:k<l.length
 ·simp [h,List.getD]
 ·rw [List.getElem?_eq_none (by simpa using h),List.getElem?_eq_none (by omega)];rfl
theorem pick_perm{l:List W.Rt}{is:List Nat}(hn:is.Nodup)(hb:∀ i∈is,i<l.length)(hall:∀ i,i<l.length→i∈is):(pick l is).Perm l:=by
 have h1:is.Perm (List.range l.length):=perm_mem hn (nodup_range _) fun x=>⟨fun h=>List.mem_range.2 (hb x h),fun h=>hall x (List.mem_range.1 h)⟩
 have h2:=h1.map fun i=>l.getD i ⟨0,[]⟩
 have h3:=pick_all l
 unfold pick at h3
 rw [h3] at h2
 exact h2
theorem insBy_perm{α:Type}(le:α→α→Bool)(x:α):∀ l:List α,(W.insBy le x l).Perm (x::l)
 |[]=>.refl _
 |y::l=>by
  unfold W.insBy
  split
  ·exact .refl _
  ·exact .trans (.cons y (insBy_perm le x l)) (.swap x y l)
theorem sortBy_perm{α:Type}(le:α→α→Bool):∀ l:List α,(W.sortBy le l).Perm l
 |[]=>.refl _
 |x::l=>.trans (insBy_perm le x _) (.cons x (sortBy_perm le l))
theorem addRt_len(r:W.Rt)(l:List W.Rt):(W.addRt r l).length≤l.length+1:=by
 unfold W.addRt;split<;>simp
theorem growF_len(t:W.Trk)(p:W.Sp):∀ (f:Nat) (r:W.Rt) (e:Int) (st:List W.Rt×Int),(st.2=0→st.1.length≤16)→st.1.length≤17→((W.growF t p f r e st).2=0→(W.growF t p f r e st).1.length≤16)∧(W.growF t p f r e st).1.length≤17
 |0,r,e,st,h,h2=>⟨h,h2⟩
 |f+1,r,e,st,h,h2=>by
  unfold W.growF
  split
  ·exact⟨h,h2⟩
  ·next h0 =>
   have h16:=h (by simpa using h0)
   split
   ·dsimp only
    have:=addRt_len r st.1
    refine⟨fun he=>?_,?_⟩
    ·by_cases hle:p.lo≤e
     ·rw [if_pos hle] at he ⊢
      by_cases h17:16<(W.addRt r st.1).length
      ·rw [if_pos h17] at he;cases he
      ·omega
     ·rw [if_neg hle];omega
    ·by_cases hle:p.lo≤e
     ·rw [if_pos hle];omega
     ·rw [if_neg hle];omega
   ·split
    ·exact⟨fun h=>by simp at h,h2⟩
    ·generalize (t.seg r.last).next=nx
     have key:∀ (nx:List Int) (st:List W.Rt×Int),(st.2=0→st.1.length≤16)→st.1.length≤17→((nx.foldl (fun st x=>W.growF t p f ⟨r.n+1,r.seg.set r.n.toNat x⟩ (e+t.len x) st) st).2=0→(nx.foldl (fun st x=>W.growF t p f ⟨r.n+1,r.seg.set r.n.toNat x⟩ (e+t.len x) st) st).1.length≤16)∧(nx.foldl (fun st x=>W.growF t p f ⟨r.n+1,r.seg.set r.n.toNat x⟩ (e+t.len x) st) st).1.length≤17:=fun nx=>by
      induction nx with
      |nil=>exact fun st h h2=>⟨h,h2⟩
      |cons x nx ih =>
       intro st h h2
       rw [List.foldl_cons]
       have:=growF_len t p f ⟨r.n+1,r.seg.set r.n.toNat x⟩ (e+t.len x) st h h2
       exact ih _ this.1 this.2
     exact key nx st h h2
theorem growAll_fold(t:W.Trk)(p:W.Sp)(s:W.RSet):∀ (l:List W.Rt) (st:List W.Rt×Int),W.growAll t p s l st=l.foldl (fun st r=>W.growF t p 13 r (s.end_ t r) st) st
 |[],st=>rfl
 |r::l,st=>by rw [W.growAll,growAll_fold t p s l,List.foldl_cons]
theorem CallS.unbufX{P:Program}{N:Nat}{E:En}{o:Oper}{f:Nat}{K:Tm→Ow→Prop}{tm:Tm}{own:Ow}(i:Nat){e sz m:Nat}{l:List (List AV)}{x:AV}(hxp:pu x=true)(Fx:Tm)(own':Nat→Ow)(hi:nth own i=some (.buf e sz l))(hl:0<l.length)(hm:m=l.length)(hg:E.gs.length≤i)(hok:own.all (ubOkO i m)=true)(hx:Sub Fx tm)(hxn:Fx.all (fun p=>noG2 i p.2)=true)
  (hO:∀ c,own' c=(own.map (ubO i sz m c)).set i (.blk l.flatten)) (h:∀ c,m≤c→c≤maxLen→CallN P N E f [.sl i 0 sz m c,x] o.dst K Fx (own' c)):CallS P N E o f [.gro i m,x] K tm own:=by
 subst hm
 refine .call ⟨fun S ids a n hs Vs hV=>?_⟩
 obtain⟨L,g,c,q1,q2,q3,q4,q5,q6,q7⟩:=hs.unbuf hi hl hg hok hx hxn
 rw [← hO] at q7
 refine(h c q5 q6).out S _ a n q7 Vs ?_
 match Vs,hV with
 |[V,U],⟨⟨L',p1,p2,p3,p4,p5⟩,hu,_⟩ =>
  rw [q1] at p1;obtain rfl:=Option.some.inj p1
  exact⟨⟨g,nth_set_self (nth_lt q1),(p5 q3).trans q4⟩,(R_pu hxp).2 ((R_pu hxp).1 hu),trivial⟩
theorem ar_flatR(l:List W.Rt):ar rtC l []=(l.map rtC).flatten:=by unfold ar;simp [List.flatMap]
structure SGood(t:W.Trk)(s:W.RSet):Prop where
 f:0≤s.from_∧s.from_≤1099511627776
 r:∀ x∈s.list,RGood t x
 n:s.list.length≤16
theorem SGood.at_{t:W.Trk}{s:W.RSet}(h:SGood t s){i:Nat}(hi:i<s.list.length):RGood t (s.list.getD i ⟨0,[]⟩):=by
 have:s.list.getD i ⟨0,[]⟩=s.list[i]:=by simp [List.getD,hi]
 rw [this]
 exact h.r _ (List.getElem_mem hi)
theorem SGood.ok{t:W.Trk}{s:W.RSet}(h:SGood t s):SOk t s:=⟨h.f,fun i hi=>(h.at_ hi).toROk,h.n⟩
theorem apRt:Ap Tryz.prog 134 229 13:=⟨.agg ⟨[.int .i64 0,.int .i64 0,.int .i64 0,.int .i64 0,.int .i64 0,.int .i64 0,.int .i64 0,.int .i64 0,.int .i64 0,.int .i64 0,.int .i64 0,.int .i64 0,.int .i64 0]⟩,104,by kernel_rfl,by kernel_rfl,rfl,by decide,by decide⟩
def GrowIs(t:W.Trk)(s:W.RSet)(p:W.Sp)(v:AV):Prop :=
 ((s.grow t p).2≠0∧v=.tup [.agg [I 0,.emp],I (s.grow t p).2])∨((s.grow t p).2=0∧∃ l,l.Perm (s.grow t p).1.list∧v=.tup [setV ⟨s.from_,l⟩,I 0])
theorem grow_(t:W.Trk)(s:W.RSet)(p:W.Sp)(ht:TLen t)(hn:NOk t)(hs:SGood t s):Ret Tryz.prog 140 [setV s,trkV t,.agg [I p.lo,I p.hi]] (GrowIs t s p):=by
 have hnn:=hs.n
 have hfb:=hs.f
 unfold GrowIs W.RSet.grow
 refine enterO tabOk (N:=84) (gs:=[]) (args:=[_,_,_]) Tryz.func140 rfl rfl rfl (nLe rfl) (fun E hE=>?_)
 by_cases hr:¬ p.right∨p.lo < -s.from_
 ·rw [if_pos hr]
  have hr2:¬ p.lo≤p.hi∨p.lo < -s.from_:=by simpa [W.Sp.right] using hr
  conv=>whnf
  repeat' (first|((first|refine Br.nt (by assumption) ?_|refine Br.nf (by assumption) ?_|refine Br.pt (by omega) ?_|refine Br.ot rfl ?_|refine CallS.q (spRight _ _) rfl ?_|refine Ob.mk (by unfold W.I64 at *;omega) ?_|refine FinAt.val rfl ?_);conv=>whnf)|((refine Br.n (fun h=>?_) (fun h=>?_))<;>conv=>whnf))
  all_goals exact .inl ⟨by decide,rfl⟩
 ·rw [if_neg hr]
  have hr2:p.lo≤p.hi∧¬ p.lo < -s.from_:=by
   have:=not_or.1 hr
   simpa [W.Sp.right] using this
  rw [growAll_fold]
  obtain⟨step,hstep⟩:∃ step:List W.Rt×Int→W.Rt→List W.Rt×Int,step=fun st r=>W.growF t p 13 r (s.end_ t r) st:=⟨_,rfl⟩
  rw [← hstep]
  have hend:∀ r,RGood t r→-1099511627776≤s.end_ t r∧s.end_ t r≤r.n*1099511627776:=fun r hr=>by
   have h1:=pre_le (f:=s.from_) ht hr.p r.path.length (Nat.le_refl _)
   have h2:=path_len hr.len hr.lo hr.hi
   have h3:=hr.lo
   have e:s.end_ t r=pre t s.from_ r.path r.path.length:=(pre_all t s.from_ r.path).symm
   rw [e]
   have h4:(r.path.length:Int)=r.n:=by omega
   rw [h4] at h1
   omega
  conv=>whnf
  repeat' ((first|refine OpAt.mkMap rfl ?_|refine Br.pf (by omega) ?_|refine Br.nf (by omega) ?_|refine CallS.q (spRight _ _) rfl ?_|refine Ob.mk (by unfold W.I64 at *;omega) ?_);conv=>whnf)
  refine LoopAt.rule tabOk [(3,_),(4,_),(5,_),(6,_),(8,_),(31,_),(32,_)] (fun (i:Nat×(List W.Rt×Int))=>[(33,.int .i64 (i.1:Int))]) (fun (i:Nat×(List W.Rt×Int))=>[.blk [I s.from_,rtsV s.list],.blk [sgsV t.segs,gpsV t.grps],.blk [I p.lo,I p.hi],.blk [I 0,.emp],.obj (MapI i.2.1),.blk [sgsV t.segs,gpsV t.grps,I p.lo,I p.hi,.mref 4,I i.2.2]]) (fun (i:Nat×(List W.Rt×Int))=>i.1≤s.list.length∧i.2=(s.list.take i.1).foldl step ([],0)∧(∀ x∈i.2.1,RGood t x)∧(i.2.2=0→i.2.1.length≤16)∧i.2.1.length≤17) (fun (i:Nat×(List W.Rt×Int))=>s.list.length-i.1) (0,([],0)) (by trivial) ⟨by simp,rfl,by simp,by simp,by simp⟩ (by trivial) (by trivial) (fun _=>⟨rfl,rfl,rfl,by simp [hE]⟩) (fun i hk=>?_)
  obtain⟨k,⟨lk,ek⟩⟩:=i
  obtain⟨hk,hst,hlk,hlen,hlen2⟩:=hk
  dsimp only at hk hst hlk hlen hlen2 ⊢
  by_cases hlt:k<s.list.length
  ·have hrg:=hs.at_ hlt
   have hee:=hend _ hrg
   conv=>whnf
   repeat' ((first|refine Drw.lateP tabOk [0,1,2,3,4,5] [] [6] (by kernel_rfl) (by kernel_rfl) ?_|refine Br.pt (by omega) ?_|refine CallD.pu (end_ t s _ ht hs.f hrg.toROk) rfl ?_|refine Ob.mk (by omega) ?_|refine Ix.nat _ ?_);conv=>whnf)
   refine CallS.call (CallN.upd [5,4] [] (RvJL.cons (RvJ.ownP rfl) (RvJL.cons (RvJ.pu rfl) (RvJL.cons (RvJ.pu rfl) RvJL.nil))) (Als.nil _) (by simp)
    ⟨rfl,by decide,by simp,Giv.consB rfl (RcJ.cons (.pu rfl) (RcJ.cons (.pu rfl) (RcJ.cons (.pu rfl) (RcJ.cons (.pu rfl) (RcJ.mref rfl (RcJ.pu rfl)))))) (Giv.consO rfl rfl (by simp) Giv.done)⟩
    (growC t p ht hn 13 (s.list.getD k ⟨0,[]⟩) (s.end_ t (s.list.getD k ⟨0,[]⟩)) lk ek (by have:=hrg.lo;omega) hrg hee.1 hee.2 hlk) (fun v gs' hp _=>?_))
   obtain⟨rfl,rfl⟩:=hp
   conv=>whnf
   repeat' ((refine Ob.mk (by unfold W.I64 at *;omega) ?_);conv=>whnf)
   have hstk:W.growF t p 13 (s.list.getD k ⟨0,[]⟩) (s.end_ t (s.list.getD k ⟨0,[]⟩)) (lk,ek)=(s.list.take (k+1)).foldl step ([],0):=by
    rw [List.take_succ_eq_append_getElem hlt,List.foldl_append,← hst,hstep]
    simp [List.getD,hlt]
   have hgl:=growF_len t p 13 (s.list.getD k ⟨0,[]⟩) (s.end_ t (s.list.getD k ⟨0,[]⟩)) (lk,ek) hlen hlen2
   exact⟨(k+1,W.growF t p 13 (s.list.getD k ⟨0,[]⟩) (s.end_ t (s.list.getD k ⟨0,[]⟩)) (lk,ek)),⟨by omega,hstk,growF_good p hn 13 _ _ _ hrg hlk,hgl.1,hgl.2⟩,by dsimp only;omega,(by trivial),(by trivial),(by trivial)⟩
  ·obtain rfl:k=s.list.length:=by omega
   rw [List.take_length] at hst
   rw [← hst]
   clear hst
   dsimp only
   conv=>whnf
   repeat' ((first|refine OpAt.range (k:=229) (e:=3) rfl (by kernel_rfl) rfl rfl (fun bm es clock hkeys=>?_)|refine Br.pf (by omega) ?_);conv=>whnf)
   have hstp:=hkeys.1
   have hkl:es.size=lk.length:=by
    have:=congrArg List.length hkeys.2
    simpa using this
   have hkey:∀ i,i<es.size→(es.getD i default).key=rtVal (lk.getD i ⟨0,[]⟩):=fun i hi=>by
    have h1:(es.toList.map (·.key))[i]?=(lk.map rtVal)[i]?:=by rw [hkeys.2]
    rw [List.getElem?_map,List.getElem?_map,Array.getElem?_toList] at h1
    have hi2:i<lk.length:=by omega
    simp [hi,hi2] at h1
    simp [Array.getD,hi,List.getD,hi2,h1]
   by_cases h0:lk=[]
   ·subst h0
    have hes0:es.size=0:=hkl
    by_cases hEk:ek=0
    ·subst hEk
     rw [if_neg (by simp)]
     refine LoopAt.rule tabOk [(3,_),(6,_),(8,_),(11,_),(52,_)] (fun (i:Nat)=>[]) (fun (i:Nat)=>[.blk [I s.from_,rtsV s.list],.blk [sgsV t.segs,gpsV t.grps],.blk [I p.lo,I p.hi],.blk [I 0,.emp],.obj (MapE bm es clock),.blk [sgsV t.segs,gpsV t.grps,I p.lo,I p.hi,.mref 4,I 0],.blk [I s.from_,.emp],.obj (ItE bm es [] clock)]) (fun (i:Nat)=>True) (fun (i:Nat)=>0) 0 (by trivial) trivial (by trivial) (by trivial) (fun _=>⟨rfl,rfl,rfl,by simp [hE]⟩) (fun i hk=>?_)
     conv=>whnf
     repeat' ((first|refine OpAt.next (j:=4) (is:=[]) rfl rfl rfl rfl rfl hstp (by simp) (fun _=>?_) (fun i hi _=>absurd hi (by omega))|refine Br.pt (by omega) ?_|refine Br.nf (by omega) ?_|refine Br.of rfl ?_|refine CallS.q (sortCE) rfl ?_|refine FinAt.val rfl ?_);conv=>whnf)
     all_goals exact .inl ⟨by show (40:Int)≠0;decide,rfl⟩
    ·rw [if_pos (by simpa using hEk)]
     refine LoopAt.rule tabOk [(3,_),(6,_),(8,_),(11,_),(52,_)] (fun (i:Nat)=>[]) (fun (i:Nat)=>[.blk [I s.from_,rtsV s.list],.blk [sgsV t.segs,gpsV t.grps],.blk [I p.lo,I p.hi],.blk [I 0,.emp],.obj (MapE bm es clock),.blk [sgsV t.segs,gpsV t.grps,I p.lo,I p.hi,.mref 4,I ek],.blk [I s.from_,.emp],.obj (ItE bm es [] clock)]) (fun (i:Nat)=>True) (fun (i:Nat)=>0) 0 (by trivial) trivial (by trivial) (by trivial) (fun _=>⟨rfl,rfl,rfl,by simp [hE]⟩) (fun i hk=>?_)
     conv=>whnf
     repeat' (first|((first|refine OpAt.next (j:=4) (is:=[]) rfl rfl rfl rfl rfl hstp (by simp) (fun _=>?_) (fun i hi _=>absurd hi (by omega))|(refine Drw.len 7 5 rfl rfl ?_;refine Drw.tree tabOk (.alt (.go 0 (.alt (.go 1 (.alt (.go 2 (.alt (.go 3 (.alt (.go 4 (.go 5 (.go 6 .done))) (.go 5 (.go 4 (.go 6 .done))))) (.go 5 (.go 3 (.go 4 (.go 6 .done)))))) (.go 5 (.go 2 (.go 3 (.go 4 (.go 6 .done))))))) (.go 5 (.go 1 (.go 2 (.go 3 (.go 4 (.go 6 .done)))))))) (.go 1 (.alt (.go 0 (.alt (.go 2 (.alt (.go 3 (.alt (.go 4 (.go 5 (.go 6 .done))) (.go 5 (.go 4 (.go 6 .done))))) (.go 5 (.go 3 (.go 4 (.go 6 .done)))))) (.go 5 (.go 2 (.go 3 (.go 4 (.go 6 .done))))))) (.go 2 (.alt (.go 0 (.alt (.go 3 (.alt (.go 4 (.go 5 (.go 6 .done))) (.go 5 (.go 4 (.go 6 .done))))) (.go 5 (.go 3 (.go 4 (.go 6 .done)))))) (.go 3 (.alt (.go 0 (.alt (.go 4 (.go 5 (.go 6 .done))) (.go 5 (.go 4 (.go 6 .done))))) (.go 4 (.go 0 (.go 5 (.go 6 .done))))))))))) 7 rfl (by kernel_rfl) ?_)|refine Br.nt (by assumption) ?_|refine Br.of rfl ?_|refine CallS.q (sortCE) rfl ?_|refine FinAt.val rfl ?_);conv=>whnf)|((refine Both.mk ?_ ?_)<;>conv=>whnf))
     all_goals exact .inl ⟨hEk,rfl⟩
   ·have hl0:0<lk.length:=by
     cases lk with
     |nil=>exact absurd rfl h0
     |cons _ _=>simp
    refine LoopAt.empC 6 1 229 13 rfl rfl ?_
    refine LoopAt.rule tabOk [(3,_),(6,_),(8,_),(11,_),(52,_)] (fun (q:List Nat×Nat×List (List AV))=>[]) (fun (q:List Nat×Nat×List (List AV))=>[.blk [I s.from_,rtsV s.list],.blk [sgsV t.segs,gpsV t.grps],.blk [I p.lo,I p.hi],.blk [I 0,.emp],.obj (MapE bm es clock),.blk [sgsV t.segs,gpsV t.grps,I p.lo,I p.hi,.mref 4,I ek],.blk [I s.from_,.gro 8 q.2.1],.obj (ItE bm es q.1 clock),.buf 229 13 q.2.2]) (fun (q:List Nat×Nat×List (List AV))=>q.1.Nodup∧(∀ i∈q.1,i<es.size)∧freeN q.1 es.size+q.1.length=es.size∧q.2.1=q.1.length∧q.2.2=(pick lk q.1).map rtC) (fun (q:List Nat×Nat×List (List AV))=>freeN q.1 es.size) ([],0,[]) (by trivial) ⟨by simp,by simp,by simp [freeN_nil],rfl,rfl⟩ (by trivial) (by trivial) (fun _=>⟨rfl,rfl,rfl,by simp [hE]⟩) (fun q hk=>?_)
    obtain⟨is,n,cs⟩:=q
    obtain⟨hnd,hbd,hfr,hn',hcs⟩:=hk
    dsimp only at hnd hbd hfr hn' hcs ⊢
    have hcl:cs.length=n:=by rw [hcs,hn',List.length_map,pick,List.length_map]
    conv=>whnf
    repeat' ((first|refine OpAt.next (j:=4) rfl rfl rfl rfl rfl hstp hbd (fun hall=>?_) (fun i hi hni=>?_)|refine OpAt.entry (j:=4) (r:=lk.getD i ⟨0,[]⟩) rfl rfl rfl rfl hstp hi (hkey i hi) ?_|refine OpAt.appG apRt rfl [10] rfl rfl rfl hcl (by simp) (by repeat (first|exact Als.nil _|refine Als.cons rfl rfl ?_)) (by simp [hE]) (Xs.one rfl rfl rfl (RvL.pu rfl) rfl) (by decide) (by omega) ?_|refine Br.ot rfl ?_|refine Br.of rfl ?_|refine BsN.mark ?_);conv=>whnf)
    ·have hpick:(pick lk is).Perm lk:=pick_perm hnd (by rw [← hkl];exact hbd) (by rw [← hkl];exact hall)
     have hpl:(pick lk is).length=n:=by rw [hn',pick,List.length_map]
     have hn0:0<n:=by rw [← hpl,hpick.length_eq];exact hl0
     have hn17:n≤17:=by rw [← hpl,hpick.length_eq];exact hlen2
     obtain⟨pk,hpk⟩:∃ pk,pk=pick lk is:=⟨_,rfl⟩
     rw [← hpk] at hcs hpick hpl
     subst hcs
     refine CallS.unbufX (m:=n) 8 rfl [(3,.own 0 0),(6,.own 3 0),(8,.own 5 0),(11,.own 6 0)] (fun c=>[.blk [I s.from_,rtsV s.list],.blk [sgsV t.segs,gpsV t.grps],.blk [I p.lo,I p.hi],.blk [I 0,.emp],.obj (MapE bm es clock),.blk [sgsV t.segs,gpsV t.grps,I p.lo,I p.hi,.mref 4,I ek],.blk [I s.from_,.sl 8 0 13 n c],.obj (ItE bm es is clock),.blk (ar rtC pk [])]) rfl (by simpa [hpl] using hn0) (by simp [hpl]) (by simp [hE]) (by simp [ubOkO,ubOk,noG1,noG0]) (by trivial) rfl (fun c=>by rw [ar_flatR];rfl) (fun c hc1 hc2=>?_)
     refine CallN.srtI 8 rfl (sortC pk [] n c hpl hn0 (by omega)) rfl (fun _=>rfl) (fun _=>rfl) (fun x l1 hx hp=>?_)
     subst hx
     have hlp:l1.length=n:=hp.length_eq.trans hpl
     by_cases hEk:ek=0
     ·subst hEk
      rw [if_neg (by simp),if_neg h0]
      conv=>whnf
      repeat' ((first|refine Br.pf (by omega) ?_|refine Br.nf (by omega) ?_);conv=>whnf)
      all_goals first
       |(exfalso;omega)
       |skip
      have e:setV ⟨s.from_,l1⟩=.agg [I s.from_,.lst 13 n fun i=>rtC (l1.getD i ⟨0,[]⟩)]:=by rw [← hlp]
      refine FinAt.gen (ars:=[setV ⟨s.from_,l1⟩,I 0]) [8] ?_ (by repeat (first|exact Als.nil _|refine Als.cons rfl rfl ?_)) (.inr ⟨rfl,l1,(hp.trans hpick).trans (sortBy_perm _ _).symm,rfl⟩)
      rw [e]
      refine RvL.cons (Rv.agg (RvL.cons (.pu rfl) (RvL.cons (Rv.slM (cs:=ar rtC l1 []) (by simp) rfl ⟨hc1,hc2⟩ (fun j hj=>?_)) RvL.nil))) (RvL.cons (.pu rfl) RvL.nil)
      obtain⟨q1,q2⟩:=ar_el (e:=rtC) (sz:=13) (fun _=>rfl) (r:=[]) (⟨0,[]⟩:W.Rt) (show j<l1.length by omega)
      refine⟨by omega,?_⟩
      rw [Nat.zero_add,q2]
      exact RvL.pu rfl
     ·rw [if_pos (by simpa using hEk)]
      conv=>whnf
      repeat' (first|((first|(refine Drw.len 7 5 rfl rfl ?_;refine Drw.tree tabOk (.alt (.go 0 (.alt (.go 1 (.alt (.go 2 (.alt (.go 3 (.alt (.go 4 (.go 5 (.go 6 .done))) (.go 5 (.go 4 (.go 6 .done))))) (.go 5 (.go 3 (.go 4 (.go 6 .done)))))) (.go 5 (.go 2 (.go 3 (.go 4 (.go 6 .done))))))) (.go 5 (.go 1 (.go 2 (.go 3 (.go 4 (.go 6 .done)))))))) (.go 1 (.alt (.go 0 (.alt (.go 2 (.alt (.go 3 (.alt (.go 4 (.go 5 (.go 6 .done))) (.go 5 (.go 4 (.go 6 .done))))) (.go 5 (.go 3 (.go 4 (.go 6 .done)))))) (.go 5 (.go 2 (.go 3 (.go 4 (.go 6 .done))))))) (.go 2 (.alt (.go 0 (.alt (.go 3 (.alt (.go 4 (.go 5 (.go 6 .done))) (.go 5 (.go 4 (.go 6 .done))))) (.go 5 (.go 3 (.go 4 (.go 6 .done)))))) (.go 3 (.alt (.go 0 (.alt (.go 4 (.go 5 (.go 6 .done))) (.go 5 (.go 4 (.go 6 .done))))) (.go 4 (.go 0 (.go 5 (.go 6 .done))))))))))) 7 rfl (by kernel_rfl) ?_)|refine Br.nt (by assumption) ?_|refine FinAt.val rfl ?_);conv=>whnf)|((refine Both.mk ?_ ?_)<;>conv=>whnf))
      all_goals exact .inl ⟨hEk,rfl⟩
    ·have hfa:=freeN_add is i hni es.size hi
     subst hcs
     refine⟨(is++[i],n+1,(pick lk is).map rtC++[rtC (lk.getD i ⟨0,[]⟩)]),⟨?_,?_,?_,?_,?_⟩,?_,(by trivial),(by trivial),(by trivial)⟩
     ·rw [List.nodup_append]
      exact⟨hnd,by simp,fun a ha b hb=>by simp at hb;subst hb;exact fun e=>hni (e ▸ ha)⟩
     ·intro j hj
      rcases List.mem_append.1 hj with h|h
      ·exact hbd j h
      ·simp at h;subst h;exact hi
     ·simp;omega
     ·simp;omega
     ·simp [pick]
     ·dsimp only;omega
abbrev plZ:AV:=.agg [.bool false,I 0,I 0,I 0,I 0,I 0,.emp]
theorem grow_from{t:W.Trk}{s:W.RSet}{p:W.Sp}(h:(s.grow t p).2=0):(s.grow t p).1.from_=s.from_:=by
 unfold W.RSet.grow at h ⊢
 split at h
 ·cases h
 ·next h1 =>
  rw [if_neg h1]
  dsimp only at h ⊢
  split at h
  ·next h2=>exact absurd h h2
  ·next h2 =>
   rw [if_neg h2]
   split at h
   ·cases h
   ·next h3=>rw [if_neg h3]
def PutIs(p:W.Place)(v:AV):Prop:=∃ l,l.Perm p.set.list∧v=plV { p with set:=⟨p.set.from_,l⟩ }
def MoveIs(t:W.Trk)(p:W.Place)(sp:W.Sp)(v:AV):Prop :=
 ((p.move t sp).2≠0∧v=.tup [plZ,I (p.move t sp).2])∨((p.move t sp).2=0∧∃ u,PutIs (p.move t sp).1 u∧v=.tup [u,I 0])
theorem move_(t:W.Trk)(p:W.Place)(sp:W.Sp)(ht:TLen t)(hn:NOk t)(hs:p.on=true→SGood t p.set)(h1:W.I64 p.pos.lo)(h2:W.I64 p.pos.hi)(h3:W.I64 p.est)(h4:W.I64 sp.lo)(h5:W.I64 sp.hi) :
  Ret Tryz.prog 97 [plV p,trkV t,.agg [I sp.lo,I sp.hi]] (MoveIs t p sp):=by
 obtain⟨on,gp,ps,est,st⟩:=p
 obtain⟨p,hp⟩:∃ p:W.Place,p=⟨true,gp,ps,est,st⟩:=⟨_,rfl⟩
 unfold MoveIs W.Place.move
 refine enterO tabOk (N:=60) (gs:=[]) (args:=[_,_,_]) Tryz.func97 rfl rfl rfl (nLe rfl) (fun E hE=>?_)
 cases on
 case true =>
  obtain rfl:gp=p.group:=by rw [hp]
  obtain rfl:ps=p.pos:=by rw [hp]
  obtain rfl:est=p.est:=by rw [hp]
  obtain rfl:st=p.set:=by rw [hp]
  clear hp
  have hs:=hs rfl
  rw [if_neg (by simp)]
  dsimp only
  dsimp only at h1 h2 h3 hs
  obtain⟨a,ha⟩:∃ a,a=p.pos.add sp:=⟨_,rfl⟩
  rw [← ha]
  obtain⟨⟨lo,hi⟩,ok⟩:=a
  have hadd:=spAdd p.pos.lo p.pos.hi sp.lo sp.hi h1 h2 h4 h5
  rw [show W.Sp.add ⟨p.pos.lo,p.pos.hi⟩ ⟨sp.lo,sp.hi⟩=p.pos.add sp from rfl,← ha] at hadd
  cases ok
  ·rw [if_pos (by simp)]
   conv=>whnf
   repeat' ((first|refine Br.ot rfl ?_|refine Br.of rfl ?_|refine CallS.q (hadd) rfl ?_|refine FinAt.val rfl ?_);conv=>whnf)
   exact .inl ⟨by show (20:Int)≠0;decide,rfl⟩
  ·cases hin:W.Sp.in_ ⟨lo,hi⟩ W.maxPlace
   ·rw [if_pos (by simp)]
    have hin2:Ret Tryz.prog 139 [.agg [I lo,I hi],.agg [I (-17592186044416),I 17592186044416]] (·=.bool false):=by
     have:=spIn lo hi (-17592186044416) 17592186044416
     rw [show (W.Sp.in_ ⟨lo,hi⟩ ⟨-17592186044416,17592186044416⟩)=false from hin] at this
     exact this
    conv=>whnf
    repeat' ((first|refine Br.ot rfl ?_|refine Br.of rfl ?_|refine CallS.q (hadd) rfl ?_|refine CallS.q (hin2) rfl ?_|refine FinAt.val rfl ?_);conv=>whnf)
    exact .inl ⟨by show (20:Int)≠0;decide,rfl⟩
   ·rw [if_neg (by simp)]
    have hin2:Ret Tryz.prog 139 [.agg [I lo,I hi],.agg [I (-17592186044416),I 17592186044416]] (·=.bool true):=by
     have:=spIn lo hi (-17592186044416) 17592186044416
     rw [show (W.Sp.in_ ⟨lo,hi⟩ ⟨-17592186044416,17592186044416⟩)=true from hin] at this
     exact this
    conv=>whnf
    repeat' ((first|refine Br.of rfl ?_|refine CallS.q (hadd) rfl ?_|refine CallS.q (hin2) rfl ?_);conv=>whnf)
    refine CallS.call (CallN.puP (grow_ t p.set ⟨lo,hi⟩ ht hn hs) rfl (fun v hv=>?_))
    have hwm:W.I64 (W.mid sp.lo sp.hi):=by
     unfold W.mid
     unfold W.I64 at *
     omega
    rcases hv with ⟨hv1,rfl⟩|⟨hv1,l,hv2,rfl⟩
    ·rw [if_pos hv1]
     conv=>whnf
     repeat' ((first|refine Br.nt (by assumption) ?_|refine FinAt.val rfl ?_);conv=>whnf)
     all_goals first
      |(exfalso;omega)
      |exact .inl ⟨hv1,rfl⟩
    ·rw [if_neg (by simpa using hv1)]
     conv=>whnf
     repeat' (first|((first|(refine Drw.len 6 3 rfl rfl ?_;refine Drw.tree tabOk (.alt (.go 0 (.alt (.go 1 (.go 2 (.go 3 (.go 4 (.go 5 .done))))) (.go 2 (.alt (.go 1 (.go 3 (.go 4 (.go 5 .done)))) (.go 3 (.go 1 (.go 4 (.go 5 .done)))))))) (.go 1 (.go 0 (.go 2 (.go 3 (.go 4 (.go 5 .done))))))) 6 rfl (by kernel_rfl) ?_)|(refine Drw.len 12 11 rfl rfl ?_;refine Drw.lateP tabOk [0,1,2,3,4,5,6,7,8,9,10] [] [11] (by kernel_rfl) (by kernel_rfl) ?_)|refine Br.nf (by omega) ?_|refine CallD.pu (spMid _ _ h4 h5) rfl ?_|refine CallD.pu (nAddSat _ _ h3 hwm) rfl ?_|refine CallD.pu (nClamp _ _ _) rfl ?_|refine FinAt.val rfl ?_);conv=>whnf)|((refine Both.mk ?_ ?_)<;>conv=>whnf))
     all_goals exact .inr ⟨rfl,_,⟨l,hv2,rfl⟩,by rw [show (p.set.grow t (({ lo:=lo,hi:=hi }:W.Sp),true).1).1.from_=p.set.from_ from grow_from hv1];rfl⟩
 case false =>
  rw [if_pos (by simp)]
  conv=>whnf
  repeat' ((first|refine Br.ot rfl ?_|refine FinAt.val rfl ?_);conv=>whnf)
  exact .inl ⟨by show (12:Int)≠0;decide,rfl⟩
structure EOk(t:W.Trk)(l:List Int):Prop where
 len:l.length=t.segs.length
 b:∀ i,-1≤l.getD i 0∧l.getD i 0≤4611686018427387904
theorem free_(t:W.Trk)(l:List Int)(s:W.RSet)(at_:Int)(ht:TLen t)(hn:NOk t)(hs:SGood t s)(hl:EOk t l)(ha:W.I64 at_):Ret Tryz.prog 108 [trkV t,isV l,setV s,I at_] (fun v=>∃ (q:Int) (b:Bool),v=.tup [I q,.bool b]∧W.I64 q):=by
 have hnn:=hs.n
 have hll:=hl.len
 refine enterO tabOk (N:=53) (gs:=[]) (args:=[_,_,_,_]) Tryz.func108 rfl rfl rfl (nLe rfl) (fun E hE=>?_)
 conv=>whnf
 refine LoopAt.rule tabOk [(1,_),(3,_),(4,_),(6,_),(17,_),(18,_)] (fun (i:Nat×Int×Bool)=>[(19,.int .i64 (i.1:Int)),(10,.int .i64 i.2.1),(11,.bool i.2.2)]) (fun (i:Nat×Int×Bool)=>[.blk [sgsV t.segs,gpsV t.grps],.blk [I s.from_,rtsV s.list]]) (fun (i:Nat×Int×Bool)=>i.1≤s.list.length∧W.I64 i.2.1) (fun (i:Nat×Int×Bool)=>s.list.length-i.1) (0,0,false) (by trivial) ⟨by simp,by show W.I64 0;unfold W.I64;omega⟩ (by trivial) (by trivial) (fun _=>⟨rfl,rfl,rfl,by simp [hE]⟩) (fun i hk=>?_)
 obtain⟨k,q,b⟩:=i
 obtain⟨hk,hq⟩:=hk
 dsimp only at hk hq ⊢
 by_cases hlt:k<s.list.length
 ·have hrg:=hs.at_ hlt
  have h1:=hrg.lo
  have h2:=hrg.hi
  have h3:=last_ok hrg.toROk
  have h4:=hl.b ((s.list.getD k ⟨0,[]⟩).seg.getD ((s.list.getD k ⟨0,[]⟩).n-1).toNat 0).toNat
  have he:-1099511627776≤s.end_ t (s.list.getD k ⟨0,[]⟩)∧s.end_ t (s.list.getD k ⟨0,[]⟩)≤13194139533312:=by
   have hf:=hs.f
   have h5:=pre_le (f:=s.from_) ht hrg.p (s.list.getD k ⟨0,[]⟩).path.length (Nat.le_refl _)
   have h6:=path_len hrg.len hrg.lo hrg.hi
   have e:s.end_ t (s.list.getD k ⟨0,[]⟩)=pre t s.from_ (s.list.getD k ⟨0,[]⟩).path (s.list.getD k ⟨0,[]⟩).path.length:=(pre_all t s.from_ _).symm
   rw [e]
   omega
  have hadd:W.I64 (s.end_ t (s.list.getD k ⟨0,[]⟩)+l.getD ((s.list.getD k ⟨0,[]⟩).seg.getD ((s.list.getD k ⟨0,[]⟩).n-1).toNat 0).toNat 0):=by unfold W.I64;omega
  have hsat:∀ x,W.I64 (W.sat x):=fun x=>by
   unfold W.sat
   by_cases hx:W.I64 x
   ·rw [if_pos hx];exact hx
   ·rw [if_neg hx];unfold W.I64;split<;>omega
  conv=>whnf
  repeat' (first|((first|refine LdAt.rt rfl _ rfl (by omega) ?_|refine Pc.sym ?_|refine Br.ot (by assumption) ?_|refine Br.of (by assumption) ?_|refine Br.pt (by omega) ?_|refine Br.ot rfl ?_|refine CallS.q (end_ t s _ ht hs.f hrg.toROk) rfl ?_|refine CallS.q (nSubSat _ _ hadd ha) rfl ?_|refine Ob.mk (by omega) ?_|refine Ob.mk (by unfold W.I64 at *;omega) ?_|refine Ix.nat _ ?_|refine Ix.tn (by omega) ?_);conv=>whnf)|((first|refine Br.d (fun h=>?_) (fun h=>?_)|refine Br.mk (fun h=>?_) (fun h=>?_))<;>conv=>whnf))
  all_goals first
   |exact⟨(k+1,q,b),⟨by dsimp only;omega,hq⟩,by dsimp only;omega,(by (repeat refine And.intro (by first|rfl|exact congrArg (fun z=>some (AV.int .i64 z)) (by first|omega|(dsimp only;omega))) ?_);exact trivial),(by trivial),(by trivial)⟩
   |exact⟨(k+1,_,true),⟨by dsimp only;omega,hsat _⟩,by dsimp only;omega,(by (repeat refine And.intro (by first|rfl|exact congrArg (fun z=>some (AV.int .i64 z)) (by first|omega|(dsimp only;omega))) ?_);exact trivial),(by trivial),(by trivial)⟩
 ·conv=>whnf
  repeat' ((first|refine Br.pf (by omega) ?_|refine FinAt.val rfl ?_);conv=>whnf)
  exact⟨q,b,rfl,hq⟩
def N2(t:W.Trk):Prop:=∀ i,i<t.segs.length→(t.segs.getD i default).next.length≤2
def EB(l:List Int)(b:Int):Prop:=∀ i,-1≤l.getD i 0∧l.getD i 0≤b
theorem EB.mono{l:List Int}{b b':Int}(h:EB l b)(hb:b≤b'):EB l b':=fun i=>⟨(h i).1,Int.le_trans (h i).2 hb⟩
theorem EB.set{l:List Int}{b x:Int}(h:EB l b)(k:Nat)(h1:-1≤x)(h2:x≤b):EB (l.set k x) b:=fun i=>by
 rw [List.getD_eq_getElem?_getD,List.getElem?_set]
 by_cases e:k=i
 ·rw [if_pos e]
  split
  ·exact⟨h1,h2⟩
  ·have:=h i
   next hge=>rw [List.getD_eq_getElem?_getD,List.getElem?_eq_none (by omega)] at this;exact this
 ·rw [if_neg e,← List.getD_eq_getElem?_getD]
  exact h i
theorem EB.rep(n:Nat):EB (List.replicate n 0) 0:=fun i=>by
 rw [List.getD_eq_getElem?_getD,List.getElem?_replicate]
 split<;>simp
theorem okArE{l:List Int}{r:List Value}{k:Nat}{a:List W.Seg}{b:List W.Grp}:okO k [.blk [sgsV a,gpsV b],.blk (ar i1 l r)]=true:=by simp [okO,okL1_ar k (e:=i1) (fun x=>rfl),okL1,ok1,ok0]
theorem ends_(t:W.Trk)(ht:TLen t)(hn:NOk t)(h2:N2 t)(h0:0<t.segs.length):Ret Tryz.prog 49 [trkV t] (fun v=>∃ l,v=isV l∧EOk t l):=by
 have hseg:=hn.n
 refine enterO tabOk (N:=90) (gs:=[]) (args:=[_]) Tryz.func49 rfl rfl rfl (nLe rfl) (fun E hE=>?_)
 conv=>whnf
 repeat' ((refine OpAt.mkSl (et:=2) (m:=t.segs.length) (kd:=.i64) (e:=i1) (bts:=8) (fun _=>rfl) rfl (by kernel_rfl) (by kernel_rfl) (by omega) (by omega) rfl rfl ?_);conv=>whnf)
 refine LoopAt.rule tabOk [(1,_),(3,_),(16,_),(17,_)] (fun (i:Nat×List Int)=>[(18,.int .i64 (i.1:Int))]) (fun (i:Nat×List Int)=>[.blk [sgsV t.segs,gpsV t.grps],.blk (ar i1 i.2 [])]) (fun (i:Nat×List Int)=>i.1≤t.segs.length∧i.2.length=t.segs.length∧EB i.2 0) (fun (i:Nat×List Int)=>t.segs.length-i.1) (0,List.replicate t.segs.length 0) (by (repeat refine And.intro (by first|rfl|exact congrArg (fun z=>some (AV.int .i64 z)) (by first|omega|(dsimp only;omega))) ?_);exact trivial) ⟨by simp,by simp,EB.rep _⟩ (by (repeat refine And.intro (by first|rfl|exact congrArg (fun z=>some (AV.int .i64 z)) (by first|omega|(dsimp only;omega))) ?_);exact trivial) (by (repeat refine And.intro (by first|rfl|exact congrArg (fun z=>some (AV.int .i64 z)) (by first|omega|(dsimp only;omega))) ?_);exact trivial) (fun _=>⟨rfl,rfl,okArE,by simp [hE]⟩) (fun i hk=>?_)
 obtain⟨k,l⟩:=i
 obtain⟨hk,hl,hb⟩:=hk
 dsimp only at hk hl hb ⊢
 by_cases hlt:k<t.segs.length
 ·conv=>whnf
  repeat' (first|((first|with_reducible refine Ix.nat _ ?_|refine Pc.sym ?_|refine StAt.el (e:=i1) (n:=1) i1_len _ rfl rfl _ (Nat.mul_one _).symm (by first|omega|(simp only [List.length_set];omega)) ?_|refine Br.pt (by omega) ?_|refine Ob.mk (by omega) ?_|refine Ob.mk (by unfold W.I64 at *;omega) ?_);conv=>whnf)|((refine Br.d (fun h=>?_) (fun h=>?_))<;>conv=>whnf))
  ·exact⟨(k+1,l.set (0+k*1) (-1)),⟨by dsimp only;omega,by simpa using hl,hb.set _ (by omega) (by omega)⟩,by dsimp only;omega,(by (repeat refine And.intro (by first|rfl|exact congrArg (fun z=>some (AV.int .i64 z)) (by first|omega|(dsimp only;omega))) ?_);exact trivial),(by trivial),(by trivial)⟩
  ·exact⟨(k+1,_),⟨by dsimp only;omega,hl,hb⟩,by dsimp only;omega,(by (repeat refine And.intro (by first|rfl|exact congrArg (fun z=>some (AV.int .i64 z)) (by first|omega|(dsimp only;omega))) ?_);exact trivial),(by trivial),(by trivial)⟩
 ·conv=>whnf
  repeat' ((refine Br.pf (by omega) ?_);conv=>whnf)
  refine LoopAt.rule tabOk [(1,_),(3,_),(33,_)] (fun (i:Nat×List Int)=>[(34,.int .i64 (i.1:Int))]) (fun (i:Nat×List Int)=>[.blk [sgsV t.segs,gpsV t.grps],.blk (ar i1 i.2 [])]) (fun (i:Nat×List Int)=>i.1≤t.segs.length∧i.2.length=t.segs.length∧EB i.2 (i.1*2199023255552000)) (fun (i:Nat×List Int)=>t.segs.length-i.1) (0,l) (by (repeat refine And.intro (by first|rfl|exact congrArg (fun z=>some (AV.int .i64 z)) (by first|omega|(dsimp only;omega))) ?_);exact trivial) ⟨by simp,hl,hb.mono (by simp)⟩ (by (repeat refine And.intro (by first|rfl|exact congrArg (fun z=>some (AV.int .i64 z)) (by first|omega|(dsimp only;omega))) ?_);exact trivial) (by (repeat refine And.intro (by first|rfl|exact congrArg (fun z=>some (AV.int .i64 z)) (by first|omega|(dsimp only;omega))) ?_);exact trivial) (fun _=>⟨rfl,rfl,okArE,by simp [hE]⟩) (fun i hk=>?_)
  clear hl hb
  obtain⟨a,l⟩:=i
  obtain⟨hk,hl,hb⟩:=hk
  dsimp only at hk hl hb ⊢
  by_cases hlt:a<t.segs.length
  ·conv=>whnf
   repeat' ((refine Br.pt (by omega) ?_);conv=>whnf)
   refine LoopAt.rule tabOk [(1,_),(3,_),(33,_),(34,_),(37,_),(38,_)] (fun (i:Nat×List Int)=>[(39,.int .i64 (i.1:Int))]) (fun (i:Nat×List Int)=>[.blk [sgsV t.segs,gpsV t.grps],.blk (ar i1 i.2 [])]) (fun (i:Nat×List Int)=>i.1≤t.segs.length∧i.2.length=t.segs.length∧EB i.2 (a*2199023255552000+i.1*2199023255552)) (fun (i:Nat×List Int)=>t.segs.length-i.1) (0,l) (by (repeat refine And.intro (by first|rfl|exact congrArg (fun z=>some (AV.int .i64 z)) (by first|omega|(dsimp only;omega))) ?_);exact trivial) ⟨by simp,hl,hb.mono (by dsimp only;omega)⟩ (by (repeat refine And.intro (by first|rfl|exact congrArg (fun z=>some (AV.int .i64 z)) (by first|omega|(dsimp only;omega))) ?_);exact trivial) (by (repeat refine And.intro (by first|rfl|exact congrArg (fun z=>some (AV.int .i64 z)) (by first|omega|(dsimp only;omega))) ?_);exact trivial) (fun _=>⟨rfl,rfl,okArE,by simp [hE]⟩) (fun i hk=>?_)
   clear hl hb
   obtain⟨b,l⟩:=i
   obtain⟨hk2,hl,hb⟩:=hk
   dsimp only at hk2 hl hb ⊢
   by_cases hlt2:b<t.segs.length
   ·have hnx:=hn.x b hlt2
    have hnw:=h2 b hlt2
    conv=>whnf
    repeat' ((first|refine Br.pt (by omega) ?_|refine Ob.mk (by omega) ?_|refine Ix.nat _ ?_);conv=>whnf)
    refine LoopAt.rule tabOk [(1,_),(3,_),(33,_),(34,_),(37,_),(38,_),(39,_),(6,_),(45,_),(46,_)] (fun (i:Nat×List Int)=>[(47,.int .i64 (i.1:Int))]) (fun (i:Nat×List Int)=>[.blk [sgsV t.segs,gpsV t.grps],.blk (ar i1 i.2 [])]) (fun (i:Nat×List Int)=>i.1≤(t.segs.getD b default).next.length∧i.2.length=t.segs.length∧EB i.2 (a*2199023255552000+b*2199023255552+i.1*1099511627776)) (fun (i:Nat×List Int)=>(t.segs.getD b default).next.length-i.1) (0,l) (by (repeat refine And.intro (by first|rfl|exact congrArg (fun z=>some (AV.int .i64 z)) (by first|omega|(dsimp only;omega))) ?_);exact trivial) ⟨by simp,hl,hb.mono (by dsimp only;omega)⟩ (by (repeat refine And.intro (by first|rfl|exact congrArg (fun z=>some (AV.int .i64 z)) (by first|omega|(dsimp only;omega))) ?_);exact trivial) (by (repeat refine And.intro (by first|rfl|exact congrArg (fun z=>some (AV.int .i64 z)) (by first|omega|(dsimp only;omega))) ?_);exact trivial) (fun _=>⟨rfl,rfl,okArE,by simp [hE]⟩) (fun i hk=>?_)
    clear hl hb
    obtain⟨c,l⟩:=i
    obtain⟨hk3,hl,hb⟩:=hk
    dsimp only at hk3 hl hb ⊢
    by_cases hlt3:c<(t.segs.getD b default).next.length
    ·have hx:=hnx c hlt3
     have htl:=ht ((t.segs.getD b default).next.getD c 0).toNat (by omega)
     have hb1:=hb (0+((t.segs.getD b default).next.getD c 0).toNat*1)
     conv=>whnf
     repeat' (first|((first|with_reducible refine Ix.nat _ ?_|refine Ix.tn (by omega) ?_|refine Pc.sym ?_|refine LdAt.one (e:=i1) (v:=I) (fun _=>rfl) (fun _=>rfl) 0 rfl _ rfl (by omega) ?_|refine StAt.el (e:=i1) (n:=1) i1_len _ rfl rfl _ (Nat.mul_one _).symm (by first|omega|(simp only [List.length_set];omega)) ?_|refine Br.pt (by assumption) ?_|refine Br.pf (by assumption) ?_|refine Br.nt (by assumption) ?_|refine Br.nf (by assumption) ?_|refine Br.pt (by omega) ?_|refine Br.ot rfl ?_|refine Br.of rfl ?_|refine Ob.mk (by omega) ?_|refine Ob.mk (by unfold W.I64 at *;omega) ?_|refine Drw.loose (by kernel_rfl) ?_);conv=>whnf)|((first|refine Br.d (fun h=>?_) (fun h=>?_)|refine Br.n (fun h=>?_) (fun h=>?_))<;>conv=>whnf))
     all_goals first
      |(
        refine Exists.intro (c+1,l) ⟨?_,?_,?_,?_,And.intro rfl (And.intro rfl trivial)⟩
        ·exact⟨by dsimp only;omega,hl,hb.mono (by dsimp only;omega)⟩
        ·dsimp only;omega
        ·exact(by (repeat refine And.intro (by first|rfl|exact congrArg (fun z=>some (AV.int .i64 z)) (by first|omega|(dsimp only;omega))) ?_);exact trivial)
        ·exact(by trivial))
      |(
        refine Exists.intro (c+1,l.set (0+b*1) (l.getD (0+((t.segs.getD b default).next.getD c 0).toNat*1) 0+(t.segs.getD ((t.segs.getD b default).next.getD c 0).toNat default).length)) ⟨?_,?_,?_,?_,And.intro rfl (And.intro rfl trivial)⟩
        ·exact⟨by dsimp only;omega,by simpa using hl,(hb.mono (by dsimp only;omega)).set _ (by omega) (by dsimp only;omega)⟩
        ·dsimp only;omega
        ·exact(by (repeat refine And.intro (by first|rfl|exact congrArg (fun z=>some (AV.int .i64 z)) (by first|omega|(dsimp only;omega))) ?_);exact trivial)
        ·exact(by trivial))
    ·conv=>whnf
     repeat' ((first|refine Br.pf (by omega) ?_|refine Ob.mk (by unfold W.I64 at *;omega) ?_);conv=>whnf)
     exact⟨(b+1,l),⟨by dsimp only;omega,hl,hb.mono (by dsimp only;omega)⟩,by dsimp only;omega,(by (repeat refine And.intro (by first|rfl|exact congrArg (fun z=>some (AV.int .i64 z)) (by first|omega|(dsimp only;omega))) ?_);exact trivial),(by trivial),(by trivial)⟩
   ·conv=>whnf
    repeat' ((first|refine Br.pf (by omega) ?_|refine Ob.mk (by unfold W.I64 at *;omega) ?_);conv=>whnf)
    exact⟨(a+1,l),⟨by dsimp only;omega,hl,hb.mono (by dsimp only;omega)⟩,by dsimp only;omega,(by (repeat refine And.intro (by first|rfl|exact congrArg (fun z=>some (AV.int .i64 z)) (by first|omega|(dsimp only;omega))) ?_);exact trivial),(by trivial),(by trivial)⟩
  ·conv=>whnf
   repeat' ((refine Br.pf (by omega) ?_);conv=>whnf)
   refine FinAt.gen (ars:=[isV l]) [1] (RvL.cons ?_ RvL.nil) (by repeat (first|exact Als.nil _|refine Als.cons rfl rfl ?_)) ⟨l,rfl,hl,fun i=>⟨(hb i).1,by have:=(hb i).2;omega⟩⟩
   have e:isV l=.lst 1 t.segs.length fun i=>[I (l.getD i 0)]:=by rw [← hl]
   rw [e]
   refine Rv.slM (cs:=ar i1 l []) (by simp) rfl ⟨Nat.le_refl _,by simp [maxLen];omega⟩ (fun j hj=>?_)
   obtain⟨q1,q2⟩:=ar_el (e:=i1) (sz:=1) (fun _=>rfl) (r:=[]) (0:Int) (show j<l.length by omega)
   refine⟨by omega,?_⟩
   rw [Nat.zero_add,q2]
   exact RvL.pu rfl
theorem SpI.zero:SpI ⟨0,0⟩:=by unfold SpI W.I64;dsimp only;omega
theorem both_i64{lo hi:Int}{h:Prop}[Decidable h](hh:h→W.I64 lo∧W.I64 hi):SpI (W.both lo hi h).1:=by
 unfold W.both
 split
 ·exact hh (by assumption)
 ·exact SpI.zero
theorem max_i64{a b:Int}(ha:W.I64 a)(hb:W.I64 b):W.I64 (max a b):=by unfold W.I64 at *;omega
theorem min_i64{a b:Int}(ha:W.I64 a)(hb:W.I64 b):W.I64 (min a b):=by unfold W.I64 at *;omega
theorem SpI.meet{s t:W.Sp}(hs:SpI s)(ht:SpI t):SpI (s.meet t).1:=both_i64 fun _=>⟨max_i64 hs.1 ht.1,min_i64 hs.2 ht.2⟩
theorem SpI.hull{s t:W.Sp}(hs:SpI s)(ht:SpI t):SpI (s.hull t):=by
 unfold W.Sp.hull
 split
 ·exact ht
 ·split
  ·exact hs
  ·exact⟨min_i64 hs.1 ht.1,max_i64 hs.2 ht.2⟩
theorem SpI.add{s t:W.Sp}:SpI (s.add t).1:=both_i64 fun h=>⟨h.2.2.1,h.2.2.2⟩
theorem SpI.sub{s t:W.Sp}:SpI (s.sub t).1:=both_i64 fun h=>⟨h.2.2.1,h.2.2.2⟩
theorem SpI.grow{s:W.Sp}{f:Int}:SpI (s.grow f).1:=both_i64 fun h=>⟨h.2.1,h.2.2.1⟩
theorem SpI.common{m:W.Sp}:∀ {l:List W.Sp},SpI m→(∀ s∈l,SpI s)→SpI (W.commonFrom m l).1
 |[],hm,_=>hm
 |s::l,hm,h=>by
  unfold W.commonFrom
  split
  ·exact SpI.common (hm.meet (h s List.mem_cons_self)) fun x hx=>h x (List.mem_cons_of_mem _ hx)
  ·exact SpI.zero
theorem SpI.twoStep{s t:W.Sp}{st:W.Sp×Bool}(hs:SpI s)(ht:SpI t)(h:SpI st.1):SpI (W.twoStep s t st).1:=by
 unfold W.twoStep
 split
 ·split
  ·exact h.hull (hs.meet ht)
  ·exact hs.meet ht
 ·exact h
theorem SpI.twoIn{s:W.Sp}(hs:SpI s):∀ {l:List W.Sp} {st:W.Sp×Bool},(∀ x∈l,SpI x)→SpI st.1→SpI (W.twoIn s l st).1
 |[],st,_,h=>h
 |t::l,st,hl,h=>by
  unfold W.twoIn
  exact SpI.twoIn (l:=l) hs (fun x hx=>hl x (List.mem_cons_of_mem _ hx)) (SpI.twoStep hs (hl t List.mem_cons_self) h)
theorem SpI.twoFrom:∀ {l:List W.Sp} {st:W.Sp×Bool},(∀ x∈l,SpI x)→SpI st.1→SpI (W.twoFrom l st).1
 |[],st,_,h=>h
 |s::l,st,hl,h=>by
  unfold W.twoFrom
  exact SpI.twoFrom (l:=l) (fun x hx=>hl x (List.mem_cons_of_mem _ hx)) (SpI.twoIn (l:=l) (hl s List.mem_cons_self) (fun x hx=>hl x (List.mem_cons_of_mem _ hx)) h)
theorem SpI.together{l:List W.Sp}(h:∀ s∈l,SpI s):SpI (W.together l).1:=by
 unfold W.together
 split
 ·cases l with
  |nil=>exact SpI.zero
  |cons m l=>exact SpI.common (h m List.mem_cons_self) h
 ·split
  ·exact SpI.zero
  ·exact SpI.twoFrom h SpI.zero
theorem fitOf_i64{a b c:W.Sensor}(ha:SpI a.sp)(hb:SpI b.sp)(hc:SpI c.sp):∀ s∈W.fitOf a b c,SpI s:=by
 intro s hs
 unfold W.fitOf at hs
 simp only [List.mem_append] at hs
 rcases hs with (hs|hs)|hs
 all_goals
  split at hs
  ·simp at hs;subst hs;assumption
  ·cases hs
theorem divQ_i64(a b c:Int)(u:Bool):W.I64 (W.divQ a b c u).1:=by
 unfold W.divQ
 split
 ·unfold W.I64;omega
 ·dsimp only
  split<;>split<;>first|assumption|(unfold W.I64;omega)
theorem ite_i64{c:Prop}[Decidable c]{a b:W.Sp×Int}(ha:SpI a.1)(hb:SpI b.1):SpI (if c then a else b).1:=by
 split<;>assumption
theorem SpI.times{s:W.Sp}{k b:Int}:SpI (s.times k b).1:=by
 unfold W.Sp.times
 exact ite_i64 .zero (ite_i64 .zero (ite_i64 .zero ⟨divQ_i64 _ _ _ _,divQ_i64 _ _ _ _⟩))
theorem SpI.tacho{d p:Int}{c:W.Sp}:SpI (W.tacho d c p).1:=by
 unfold W.tacho
 split
 ·exact SpI.zero
 ·split
  ·exact SpI.zero
  ·split
   ·exact SpI.zero
   ·exact SpI.times.hull SpI.times
theorem SpI.tachoS{c:W.Sp}{p:Int}{n:W.Counter×Int×Bool}:SpI (W.tachoSensor c p n).sp:=by
 unfold W.tachoSensor
 split
 ·exact SpI.tacho
 ·exact SpI.zero
theorem SpI.radarS(n:W.Nav)(m:Ml.M):SpI (n.radarS m).sp:=by
 unfold W.Nav.radarS
 split
 ·exact SpI.grow
 ·exact SpI.zero
structure CtB(k:W.Counter)(c:Int):Prop where
 l:0≤k.last∧k.last<65536
 sum:-(32768*c)≤k.sum∧k.sum≤32768*c
structure PlB(t:W.Trk)(p:W.Place):Prop where
 grp:0≤p.group∧p.group<t.grps.length
 set:SGood t p.set
 lo:-17592186044416≤p.pos.lo∧p.pos.lo≤17592186044416
 hi:-17592186044416≤p.pos.hi∧p.pos.hi≤17592186044416
 est:W.I64 p.est
structure SpeedB(c:W.Conf)(s:W.Sp):Prop where
 lo:-c.maxSpeed≤s.lo
 hi:s.hi≤c.maxSpeed
 right:s.lo≤s.hi
structure NavOk(n:W.Nav):Prop where
 off:n.broken=false
 cf:ConfB n.c
 tk:TrkOk n.t
 en:EOk n.t n.ends
 gr:SpI n.grades
 cy:0≤n.cycle∧n.cycle≤100000
 k0:CtB n.k0 n.cycle
 k1:CtB n.k1 n.cycle
 c0:SpI n.circ0
 c1:SpI n.circ1
 sp:SpeedB n.c n.speed
 di:0≤n.dist∧n.dist≤16777216*n.cycle
 pl:n.place.on=true→PlB n.t n.place
 ori:SpI n.origin
 s0:-(32768*n.cycle)≤n.sum0∧n.sum0≤32768*n.cycle
 s1:-(32768*n.cycle)≤n.sum1∧n.sum1≤32768*n.cycle
 st:0≤n.still.count∧n.still.count≤1000
 ro:SpI n.roll.moved
 w0:0≤n.watch.silent∧n.watch.silent≤1001
 w1:0≤n.watch.strife∧n.watch.strife≤1001
theorem CtB.next{k:W.Counter}{c v:Int}{h:Bool}(hk:CtB k c)(hc:0≤c∧c≤100000):CtB (k.next v h).1 (c+1):=by
 obtain⟨⟨h1,h2⟩,h3,h4⟩:=hk
 have hd:∀ a b,-32768≤W.delta a b∧W.delta a b≤32767:=fun a b=>by unfold W.delta;omega
 unfold W.Counter.next
 split
 ·split
  ·have:=hd k.last (v%65536)
   have hs:W.sat (k.sum+W.delta k.last (v%65536))=k.sum+W.delta k.last (v%65536):=W.sat_ok (by unfold W.I64;omega)
   refine⟨⟨by dsimp only;omega,by dsimp only;omega⟩,?_⟩
   dsimp only
   rw [hs]
   omega
  ·exact⟨⟨by dsimp only;omega,by dsimp only;omega⟩,by dsimp only;omega⟩
 ·exact⟨⟨h1,h2⟩,by dsimp only;omega⟩
theorem prior_b{c:W.Conf}{s:W.Sp}(hc:ConfB c)(hs:SpeedB c s):SpeedB c (W.prior c s):=by
 have h1:=hc.maxSpeed
 have h2:=hc.maxAccel
 obtain⟨h3,h4,h5⟩:=hs
 have e1:s.grow c.maxAccel=(⟨s.lo-c.maxAccel,s.hi+c.maxAccel⟩,true):=by
  unfold W.Sp.grow W.both
  rw [if_pos ⟨h5,by unfold W.I64;omega,by unfold W.I64;omega,by omega⟩]
 have e2:W.prior c s=⟨max (s.lo-c.maxAccel) (-c.maxSpeed),min (s.hi+c.maxAccel) c.maxSpeed⟩:=by
  unfold W.prior
  rw [e1]
  unfold W.Sp.meet W.both W.Conf.speeds
  dsimp only
  rw [if_pos (by omega)]
 rw [e2]
 exact⟨by dsimp only;omega,by dsimp only;omega,by dsimp only;omega⟩
theorem narrow_b{c:W.Conf}{f:W.Fused}{s:W.Sp}(h:SpeedB c f.speed):SpeedB c (f.narrow s).speed:=by
 obtain⟨h3,h4,h5⟩:=h
 unfold W.Fused.narrow W.Sp.meet W.both
 by_cases hm:max f.speed.lo s.lo≤min f.speed.hi s.hi
 ·rw [if_pos hm]
  rw [if_pos rfl]
  exact⟨by dsimp only;omega,by dsimp only;omega,by dsimp only;omega⟩
 ·rw [if_neg hm]
  rw [if_neg (by simp)]
  exact⟨h3,h4,h5⟩
theorem fuse_b{c:W.Conf}{p:W.Sp}{a b d e:W.Sensor}(h:SpeedB c p):SpeedB c (W.fuse p a b d e).speed:=by
 unfold W.fuse
 dsimp only
 have key:∀ (f:W.Fused),SpeedB c f.speed→SpeedB c (if e.fit then f.narrow e.sp else f).speed:=fun f hf=>by
  split
  ·exact narrow_b hf
  ·exact hf
 split
 ·show SpeedB c (W.Fused.speed (if e.fit then _ else _))
  apply key
  split
  ·exact narrow_b h
  ·split<;>exact h
 ·apply key
  split
  ·exact narrow_b h
  ·split<;>exact h
theorem mid_b{c:W.Conf}{s:W.Sp}(h:SpeedB c s):-c.maxSpeed≤s.mid∧s.mid≤c.maxSpeed:=by
 obtain⟨h3,h4,h5⟩:=h
 unfold W.Sp.mid W.mid
 omega
def withL(n:W.Nav)(l:List W.Rt):W.Nav:={ n with place:={ n.place with set:=⟨n.place.set.from_,l⟩ } }
def MoveR(n:W.Nav)(s:W.Sp)(n':W.Nav)(over:Bool):Prop:=∃ l,l.Perm (n.move s).1.place.set.list∧n'=withL (n.move s).1 l∧over=(n.move s).2
def FitL(n:W.Nav)(was:W.Place)(s:W.Sp)(i:Nat)(l:List Int):Prop :=
 ((W.passage was.pos s).2=true∧l.length≤192∧∀ x,x∈l↔x∈n.place.set.placesRaw n.t (n.t.grps.getD i default)∧W.fitsAt (W.window n.c (n.t.grps.getD i default)) (W.passage was.pos s).1 x=true)∨((W.passage was.pos s).2=false∧l=[])
def LookR(n:W.Nav)(m:Ml.M)(was:W.Place)(s:W.Sp)(x:W.Found):Prop :=
 (m.has 5=false∧x=⟨0,[],true,false⟩)∨(m.has 5=true∧n.t.find (m.val 5)=none∧x=⟨0,[],false,false⟩) ∨
 (m.has 5=true∧∃ i,n.t.find (m.val 5)=some i∧((n.place.on=true∧∃ l,FitL n was s i l∧x=⟨i,l,decide (0<l.length),decide (0<l.length)⟩)∨(n.place.on=false∧x=⟨i,[],true,true⟩)))
def watched(n:W.Nav)(f:W.Fused)(over acc:Bool):W.Nav :=
 let n3:={ n with watch:=n.watch.next n.c f.fit f.conflict over acc }
 if n3.watch.failed then { n3 with place:=W.Place.none } else n3
def rolled(n:W.Nav)(f:W.Fused)(cmd:Bool):W.Nav :=
 let n5:={ n with still:=n.still.next n.c f.speed f.fit }
 { n5 with roll:=n5.roll.next n5.c n5.still.on cmd f.speed }
def ended(n:W.Nav)(f:W.Fused)(over acc cmd:Bool):W.Nav:=rolled (watched n f over acc) f cmd
def sensed(n:W.Nav)(m:Ml.M):W.Nav×W.Fused :=
 let s:=({ n with cycle:=n.cycle+1 }:W.Nav).sense m
 ({ s.1 with clean:=s.1.clean&&s.2.clean },s.2)
def accepted(n:W.Nav)(x:W.Found)(f:W.Fused):W.Nav:=if x.accepted then n.accept x f.speed else n
def opened(n:W.Nav)(m:Ml.M)(x:W.Found):W.Report:={ W.Report.empty n.cycle with bad:=m.bad,stale:=m.stale,twice:=m.twice,beyond:=m.beyond,accepted:=x.accepted,fault:=!x.ok }
def TellR(n:W.Nav)(r:W.Report)(f:W.Fused)(r':W.Report):Prop:=∃ pm ov,r'={ n.tell r f with permitted:=pm,over:=ov }
def StepR(n:W.Nav)(m:Ml.M)(cmd:Bool)(n':W.Nav)(r:W.Report):Prop :=
 ∃ n2 over x,MoveR (sensed n m).1 (sensed n m).2.speed n2 over∧LookR n2 m (sensed n m).1.place (sensed n m).2.speed x∧n'=ended (accepted n2 x (sensed n m).2) (sensed n m).2 over x.accepted cmd∧TellR n' (opened n m x) (sensed n m).2 r
theorem growAll_good{t:W.Trk}{p:W.Sp}{s:W.RSet}(hn:NOk t):∀ (l:List W.Rt) (st:List W.Rt×Int),(∀ r∈l,RGood t r)→(∀ x∈st.1,RGood t x)→(st.2=0→st.1.length≤16)→st.1.length≤17 →
  (∀ x∈(W.growAll t p s l st).1,RGood t x)∧((W.growAll t p s l st).2=0→(W.growAll t p s l st).1.length≤16)
 |[],st,_,h,h2,_=>⟨h,h2⟩
 |r::l,st,hl,h,h2,h3=>by
  have h4:=growF_len t p 13 r (s.end_ t r) st h2 h3
  have h5:=growF_good p hn 13 r (s.end_ t r) st (hl r List.mem_cons_self) h
  exact growAll_good hn l _ (fun x hx=>hl x (List.mem_cons_of_mem _ hx)) h5 h4.1 h4.2
theorem grow_good{t:W.Trk}{p:W.Sp}{s:W.RSet}(hn:NOk t)(hs:SGood t s)(h:(s.grow t p).2=0):SGood t (s.grow t p).1:=by
 unfold W.RSet.grow at h ⊢
 split at h
 ·cases h
 ·next h1 =>
  rw [if_neg h1]
  dsimp only at h ⊢
  have hg:=growAll_good (p:=p) (s:=s) hn s.list ([],0) hs.r (by simp) (by simp) (by simp)
  split at h
  ·next h2=>exact absurd h h2
  ·next h2 =>
   rw [if_neg h2]
   split at h
   ·cases h
   ·next h3 =>
    rw [if_neg h3]
    have hp:=sortBy_perm (fun a b=>decide (W.Rt.cmp a b≤0)) (W.growAll t p s s.list ([],0)).1
    exact⟨hs.f,fun x hx=>hg.1 x (hp.mem_iff.1 hx),by
     show (W.sortBy _ _).length≤16
     rw [hp.length_eq]
     exact hg.2 (by simpa using h2)⟩
theorem SGood.perm{t:W.Trk}{f:Int}{l l':List W.Rt}(h:SGood t ⟨f,l⟩)(hp:l'.Perm l):SGood t ⟨f,l'⟩:=⟨h.f,fun x hx=>h.r x (hp.mem_iff.1 hx),by show l'.length≤16;rw [hp.length_eq];exact h.n⟩
theorem TrkOk.nok{t:W.Trk}(h:TrkOk t):NOk t∧N2 t∧PLen t:=by
 have key:∀ i,i<t.segs.length→(t.segs.getD i default).next.length≤2∧(∀ k,k<(t.segs.getD i default).next.length→0≤(t.segs.getD i default).next.getD k 0∧(t.segs.getD i default).next.getD k 0<t.segs.length)∧(t.segs.getD i default).pieces.length≤64:=fun i hi=>by
  have:=h.seg i hi
  unfold W.segOk at this
  simp only [Bool.and_eq_true,decide_eq_true_eq,List.all_eq_true,List.mem_range] at this
  obtain⟨⟨⟨h1,h2⟩,h3⟩,h4⟩:=this
  exact⟨h3,fun k hk=>⟨(h4 k hk).1,(h4 k hk).2.1⟩,(pieces_len h2).2⟩
 exact⟨⟨by have:=h.n;omega,fun i hi=>by have:=(key i hi).1;omega,fun i hi=>(key i hi).2.1⟩,fun i hi=>(key i hi).1,fun i hi=>(key i hi).2.2⟩
theorem clamp_i64{x a b:Int}(hx:W.I64 x)(ha:W.I64 a)(hb:W.I64 b):W.I64 (W.clamp x a b):=by unfold W.clamp W.I64 at *;omega
theorem sat_i64(x:Int):W.I64 (W.sat x):=by
 unfold W.sat
 by_cases hx:W.I64 x
 ·rw [if_pos hx];exact hx
 ·rw [if_neg hx];unfold W.I64;split<;>omega
theorem move_b{t:W.Trk}{p:W.Place}{s:W.Sp}(ht:TrkOk t)(hp:PlB t p)(hon:(p.move t s).1.on=true):PlB t (p.move t s).1∧(p.move t s).1.group=p.group:=by
 unfold W.Place.move at hon ⊢
 split at hon
 ·cases hon
 ·next h1 =>
  rw [if_neg h1]
  dsimp only at hon ⊢
  split at hon
  ·cases hon
  ·next h2 =>
   rw [if_neg h2]
   split at hon
   ·cases hon
   ·next h3 =>
    rw [if_neg h3]
    simp only [Bool.or_eq_true,Bool.not_eq_true',not_or,Bool.not_eq_false] at h2
    obtain⟨h4,h5⟩:=h2
    have hr:(p.pos.add s).1.right:=by
     unfold W.Sp.add W.both at h4 ⊢
     by_cases hc:p.pos.right∧s.right∧W.I64 (p.pos.lo+s.lo)∧W.I64 (p.pos.hi+s.hi)
     ·rw [if_pos hc]
      have:=hc.1;have:=hc.2.1
      unfold W.Sp.right at *
      dsimp only
      omega
     ·rw [if_neg hc] at h4;cases h4
    unfold W.Sp.in_ W.maxPlace at h5
    have h5:=of_decide_eq_true h5
    dsimp only at h5
    have hb:=h5.resolve_left (fun h=>h hr)
    unfold W.Sp.right at hr
    exact⟨⟨hp.grp,grow_good ht.nok.1 hp.set (by simpa using h3),⟨hb.1,by dsimp only;omega⟩,⟨by dsimp only;omega,hb.2⟩,clamp_i64 (sat_i64 _) (by unfold W.I64;omega) (by unfold W.I64;omega)⟩,rfl⟩
theorem find_lt{t:W.Trk}{id:Int}{i:Nat}(h:t.find id=some i):i<t.grps.length∧(t.grps.getD i default).id=id:=by
 unfold W.Trk.find at h
 have h1:=List.mem_of_find?_eq_some h
 have h2:=List.find?_some h
 exact⟨List.mem_range.1 h1,by simpa using h2⟩
theorem NavOk.sensed{n:W.Nav}{m:Ml.M}(h:NavOk n)(hc:n.cycle<100000):NavOk (sensed n m).1∧SpeedB n.c (sensed n m).2.speed:=by
 have h1:=h.cy
 have h2:=h.di
 have h3:=h.s0
 have h4:=h.s1
 refine⟨{ off:=h.off,cf:=h.cf,tk:=h.tk,en:=h.en,gr:=h.gr,cy:=?_,k0:=h.k0.next h1,k1:=h.k1.next h1,c0:=h.c0,c1:=h.c1,sp:=h.sp,di:=?_,pl:=h.pl,ori:=h.ori,s0:=?_,s1:=?_,st:=h.st,ro:=h.ro,w0:=h.w0,w1:=h.w1 },fuse_b (prior_b h.cf h.sp)⟩
 ·show 0≤n.cycle+1∧n.cycle+1≤100000;omega
 ·show 0≤n.dist∧n.dist≤16777216*(n.cycle+1);omega
 ·show -(32768*(n.cycle+1))≤n.sum0∧n.sum0≤32768*(n.cycle+1);omega
 ·show -(32768*(n.cycle+1))≤n.sum1∧n.sum1≤32768*(n.cycle+1);omega
theorem NavOk.moved{n n':W.Nav}{s:W.Sp}{over:Bool}(h:NavOk n)(hd:n.dist≤16777216*(n.cycle-1))(hs:SpeedB n.c s)(hm:MoveR n s n' over):NavOk n':=by
 obtain⟨l,hl,rfl,rfl⟩:=hm
 have hmb:=mid_b hs
 have hms:=h.cf.maxSpeed
 have hdi:=h.di
 have hab:0≤W.abs s.mid∧W.abs s.mid≤16777216:=by unfold W.abs;split<;>omega
 refine { off:=h.off,cf:=h.cf,tk:=h.tk,en:=h.en,gr:=h.gr,cy:=h.cy,k0:=h.k0,k1:=h.k1,c0:=h.c0,c1:=h.c1,sp:=hs,di:=?_,pl:=?_,ori:=h.ori,s0:=h.s0,s1:=h.s1,st:=h.st,ro:=h.ro,w0:=h.w0,w1:=h.w1 }
 ·have key:∀ c:Bool,0≤(if c=true then n.dist+W.abs s.mid else n.dist)∧(if c=true then n.dist+W.abs s.mid else n.dist)≤16777216*n.cycle:=fun c=>by
   cases c
   ·rw [if_neg (by simp)];omega
   ·rw [if_pos rfl];omega
  exact key _
 ·intro hon
  have hl':l.Perm (if n.place.on then (n.place.move n.t s).1 else n.place).set.list:=hl
  show PlB n.t { (if n.place.on then (n.place.move n.t s).1 else n.place) with set:=⟨(if n.place.on then (n.place.move n.t s).1 else n.place).set.from_,l⟩ }
  have hon':(if n.place.on then (n.place.move n.t s).1 else n.place).on=true:=hon
  have key:∀ p:W.Place,PlB n.t p→l.Perm p.set.list→PlB n.t { p with set:=⟨p.set.from_,l⟩ }:=fun p hp hl=>⟨hp.grp,SGood.perm (l:=p.set.list) hp.set hl,hp.lo,hp.hi,hp.est⟩
  by_cases h0:n.place.on=true
  ·rw [if_pos h0] at hl' hon' ⊢
   exact key _ (move_b h.tk (h.pl h0) hon').1 hl'
  ·rw [if_neg h0] at hon';exact absurd hon' h0
theorem begin_good{t:W.Trk}{g:Nat}(ht:TrkOk t)(hg:g<t.grps.length):SGood t (W.begin_ (t.grps.getD g default).seg (t.grps.getD g default).offset):=by
 obtain⟨g1,g2,g3,g4,g5⟩:=(ht.gr hg).1
 have hl:=ht.len (t.grps.getD g default).seg.toNat (by omega)
 have e:t.len (t.grps.getD g default).seg=(t.segs.getD (t.grps.getD g default).seg.toNat default).length:=rfl
 have hn:=ht.n
 refine⟨⟨g3.1,by show (t.grps.getD g default).offset≤_;omega⟩,fun x hx=>?_,by show 1≤16;omega⟩
 obtain rfl:x=⟨1,W.zeros12.set 0 (t.grps.getD g default).seg⟩:=by simpa [W.begin_] using hx
 refine⟨⟨rfl,by show (1:Int)≤1;omega,by show (1:Int)≤12;omega,fun i hi=>?_⟩,?_⟩
 ·have hp:(⟨1,W.zeros12.set 0 (t.grps.getD g default).seg⟩:W.Rt).path=[(t.grps.getD g default).seg]:=rfl
  rw [hp] at hi ⊢
  obtain rfl:i=0:=by simpa using hi
  exact g2
 ·refine⟨by show W.I64 1;unfold W.I64;omega,fun i=>?_⟩
  show W.I64 ((W.zeros12.set 0 (t.grps.getD g default).seg).getD i 0)
  have hz:∀ j,W.zeros12.getD j 0=0:=fun j=>by
   unfold W.zeros12
   match j with
   |0|1|2|3|4|5|6|7|8|9|10|11=>rfl
   |_+12=>rfl
  cases i with
  |zero=>show W.I64 (t.grps.getD g default).seg;unfold W.I64;omega
  |succ i =>
   have:(W.zeros12.set 0 (t.grps.getD g default).seg).getD (i+1) 0=W.zeros12.getD (i+1) 0:=rfl
   rw [this,hz]
   unfold W.I64;omega
theorem reset_b{c:W.Conf}{t:W.Trk}{g:Nat}{s:W.Sp}(hc:ConfB c)(ht:TrkOk t)(hg:g<t.grps.length)(hs:SpeedB c s):PlB t (W.resetAt c (t.grps.getD g default) g s):=by
 obtain⟨g1,g2,g3,g4,g5⟩:=(ht.gr hg).1
 have h1:=hc.antenna
 have h2:=hc.maxSpeed
 obtain⟨h3,h4,h5⟩:=hs
 refine⟨⟨by show (0:Int)≤g;omega,by show (g:Int) < _;omega⟩,begin_good ht hg,?_,?_,?_⟩
 ·show _≤-((t.grps.getD g default).acc+c.antenna)+min 0 s.lo∧-((t.grps.getD g default).acc+c.antenna)+min 0 s.lo≤_;omega
 ·show _≤((t.grps.getD g default).acc+c.antenna)+max 0 s.hi∧((t.grps.getD g default).acc+c.antenna)+max 0 s.hi≤_;omega
 ·show W.I64 (W.mid (-((t.grps.getD g default).acc+c.antenna)+min 0 s.lo) (((t.grps.getD g default).acc+c.antenna)+max 0 s.hi))
  unfold W.mid W.I64
  omega
theorem SpI.learnOwn{c:W.Sp}{r:W.Sp×Bool}(hc:SpI c)(hr:SpI r.1):SpI (W.learnOwn c r):=by
 unfold W.learnOwn
 split
 ·split
  ·exact hc.meet hr
  ·exact hc
 ·exact hc
theorem SpI.reckoned{w:W.Sp}{p n:Int}:SpI (W.reckoned w p n).1:=by
 unfold W.reckoned
 split
 ·exact SpI.zero
 ·exact⟨divQ_i64 _ _ _ _,divQ_i64 _ _ _ _⟩
theorem SpI.learn{c w:W.Sp}{p n:Int}(hc:SpI c):SpI (W.learn c w p n):=by
 unfold W.learn
 split
 ·split
  ·exact hc.learnOwn .reckoned
  ·exact hc
 ·exact hc.learnOwn .reckoned
theorem learn_keep(n:W.Nav)(a:Int):∃ c0 c1,n.learn a={ n with circ0:=c0,circ1:=c1 }∧(SpI n.circ0→SpI c0)∧(SpI n.circ1→SpI c1):=by
 unfold W.Nav.learn
 dsimp only
 split
 ·exact⟨_,_,rfl,id,id⟩
 ·split
  ·exact⟨_,_,rfl,id,id⟩
  ·exact⟨_,_,rfl,fun h=>h.learn,fun h=>h.learn⟩
theorem LookR.grp{n:W.Nav}{m:Ml.M}{was:W.Place}{s:W.Sp}{x:W.Found}(h:LookR n m was s x)(ha:x.accepted=true):∃ i:Nat,x.group=i∧i<n.t.grps.length∧(n.t.grps.getD i default).id=m.val 5∧m.has 5=true:=by
 rcases h with ⟨_,rfl⟩|⟨_,_,rfl⟩|⟨h5,i,hf,h⟩
 ·cases ha
 ·cases ha
 ·have:=find_lt hf
  rcases h with ⟨_,l,_,rfl⟩|⟨_,rfl⟩<;>exact⟨i,rfl,this.1,this.2,h5⟩
theorem NavOk.accepted{n:W.Nav}{m:Ml.M}{was:W.Place}{x:W.Found}{f:W.Fused}(h:NavOk n)(hl:LookR n m was f.speed x)(hs:SpeedB n.c f.speed):NavOk (Y.accepted n x f):=by
 unfold Y.accepted
 split
 ·next ha =>
  obtain⟨i,e,hi,_⟩:=hl.grp ha
  have hp:PlB n.t (W.resetAt n.c (n.t.grp x.group) x.group f.speed):=by
   rw [e]
   exact reset_b h.cf h.tk hi hs
  have hpi:SpI (W.resetAt n.c (n.t.grp x.group) x.group f.speed).pos:=⟨by have:=hp.lo;unfold W.I64;omega,by have:=hp.hi;unfold W.I64;omega⟩
  unfold W.Nav.accept
  dsimp only
  obtain⟨c0,c1,e1,e2,e3⟩:=learn_keep { n with place:=W.resetAt n.c (n.t.grp x.group) x.group f.speed } (x.at_.getD 0 0)
  rw [e1]
  split
  ·exact { off:=h.off,cf:=h.cf,tk:=h.tk,en:=h.en,gr:=h.gr,cy:=h.cy,k0:=h.k0,k1:=h.k1,c0:=e2 h.c0,c1:=e3 h.c1,sp:=h.sp,di:=h.di,pl:=fun _=>hp,ori:=hpi,s0:=h.k0.sum,s1:=h.k1.sum,st:=h.st,ro:=h.ro,w0:=h.w0,w1:=h.w1 }
  ·exact { off:=h.off,cf:=h.cf,tk:=h.tk,en:=h.en,gr:=h.gr,cy:=h.cy,k0:=h.k0,k1:=h.k1,c0:=h.c0,c1:=h.c1,sp:=h.sp,di:=h.di,pl:=fun _=>hp,ori:=hpi,s0:=h.k0.sum,s1:=h.k1.sum,st:=h.st,ro:=h.ro,w0:=h.w0,w1:=h.w1 }
 ·exact h
theorem NavOk.watched{n:W.Nav}{f:W.Fused}{over acc:Bool}(h:NavOk n):NavOk (watched n f over acc):=by
 have h1:=h.w0
 have h2:=h.w1
 have h3:=h.cf.timeout
 have hc:∀ (k:Int) (b:Bool),0≤k→0≤W.wcount k (n.c.timeout+1) b∧W.wcount k (n.c.timeout+1) b≤1001:=fun k b hk=>by unfold W.wcount;split<;>omega
 have hw:NavOk { n with watch:=n.watch.next n.c f.fit f.conflict over acc }:={ off:=h.off,cf:=h.cf,tk:=h.tk,en:=h.en,gr:=h.gr,cy:=h.cy,k0:=h.k0,k1:=h.k1,c0:=h.c0,c1:=h.c1,sp:=h.sp,di:=h.di,pl:=h.pl,ori:=h.ori,s0:=h.s0,s1:=h.s1,st:=h.st,ro:=h.ro,w0:=hc _ _ h1.1,w1:=hc _ _ h2.1 }
 unfold Y.watched
 dsimp only
 split
 ·exact { off:=h.off,cf:=h.cf,tk:=h.tk,en:=h.en,gr:=h.gr,cy:=h.cy,k0:=h.k0,k1:=h.k1,c0:=h.c0,c1:=h.c1,sp:=h.sp,di:=h.di,pl:=(fun h=>by cases h),ori:=h.ori,s0:=h.s0,s1:=h.s1,st:=h.st,ro:=h.ro,w0:=hc _ _ h1.1,w1:=hc _ _ h2.1 }
 ·exact hw
theorem NavOk.rolled{n:W.Nav}{f:W.Fused}{cmd:Bool}(h:NavOk n):NavOk (rolled n f cmd):=by
 have h1:=h.st
 have h3:=h.cf.still
 refine { off:=h.off,cf:=h.cf,tk:=h.tk,en:=h.en,gr:=h.gr,cy:=h.cy,k0:=h.k0,k1:=h.k1,c0:=h.c0,c1:=h.c1,sp:=h.sp,di:=h.di,pl:=h.pl,ori:=h.ori,s0:=h.s0,s1:=h.s1,st:=?_,ro:=?_,w0:=h.w0,w1:=h.w1 }
 ·show 0≤(n.still.next n.c f.speed f.fit).count∧(n.still.next n.c f.speed f.fit).count≤1000
  unfold W.Still.next
  split
  ·dsimp only;omega
  ·dsimp only;omega
 ·show SpI (W.Roll.next _ _ _ _ _).moved
  unfold W.Roll.next
  split
  ·exact SpI.zero
  ·split
   ·exact SpI.zero
   ·dsimp only
    split
    ·exact SpI.add
    ·exact h.ro
theorem ended_c(n:W.Nav)(f:W.Fused)(over acc cmd:Bool):(ended n f over acc cmd).c=n.c∧(ended n f over acc cmd).t=n.t∧(ended n f over acc cmd).cycle=n.cycle∧(ended n f over acc cmd).circ0=n.circ0∧(ended n f over acc cmd).circ1=n.circ1∧(ended n f over acc cmd).dist=n.dist∧(ended n f over acc cmd).broken=n.broken:=by
 unfold ended rolled watched
 dsimp only
 split<;>exact⟨rfl,rfl,rfl,rfl,rfl,rfl,rfl⟩
theorem accepted_c(n:W.Nav)(x:W.Found)(f:W.Fused):(accepted n x f).c=n.c∧(accepted n x f).t=n.t∧(accepted n x f).cycle=n.cycle∧(accepted n x f).dist=n.dist:=by
 unfold accepted
 split
 ·unfold W.Nav.accept
  dsimp only
  obtain⟨c0,c1,e1,_⟩:=learn_keep { n with place:=W.resetAt n.c (n.t.grp x.group) x.group f.speed } (x.at_.getD 0 0)
  rw [e1]
  split<;>exact⟨rfl,rfl,rfl,rfl⟩
 ·exact⟨rfl,rfl,rfl,rfl⟩
theorem StepR.keep{n n':W.Nav}{m:Ml.M}{cmd:Bool}{r:W.Report}(h:StepR n m cmd n' r):n'.c=n.c∧n'.t=n.t∧n'.cycle=n.cycle+1:=by
 obtain⟨n2,over,x,⟨l,hl,rfl,rfl⟩,hk,rfl,_⟩:=h
 obtain⟨e1,e2,e3,_⟩:=ended_c (accepted (withL ((sensed n m).1.move (sensed n m).2.speed).1 l) x (sensed n m).2) (sensed n m).2 ((sensed n m).1.move (sensed n m).2.speed).2 x.accepted cmd
 obtain⟨g1,g2,g3,_⟩:=accepted_c (withL ((sensed n m).1.move (sensed n m).2.speed).1 l) x (sensed n m).2
 exact⟨e1.trans g1,e2.trans g2,e3.trans g3⟩
theorem StepR.ok{n n':W.Nav}{m:Ml.M}{cmd:Bool}{r:W.Report}(h:NavOk n)(hc:n.cycle<100000)(hs:StepR n m cmd n' r):NavOk n':=by
 obtain⟨n2,over,x,hm,hl,rfl,_⟩:=hs
 obtain⟨h1,h2⟩:=h.sensed (m:=m) hc
 have h3:=h1.moved (by show n.dist≤16777216*(n.cycle+1-1);have:=h.di;omega) h2 hm
 have hcc:n2.c=n.c:=by obtain⟨l,hl,rfl,rfl⟩:=hm;rfl
 exact((h3.accepted hl (by rw [hcc];exact h2)).watched).rolled
inductive RunTo(M:Nat→Ml.M)(C:Nat→Bool)(n0:W.Nav):Nat→W.Nav→List W.Report→Prop
 |zero:RunTo M C n0 0 n0 []
 |step {k:Nat} {n n':W.Nav} {rs:List W.Report} {r:W.Report}:RunTo M C n0 k n rs→StepR n (M k) (C k) n' r→RunTo M C n0 (k+1) n' (rs++[r])
theorem RunTo.len{M:Nat→Ml.M}{C:Nat→Bool}{n0 n:W.Nav}{k:Nat}{rs:List W.Report}(h:RunTo M C n0 k n rs):rs.length=k:=by
 induction h with
 |zero=>rfl
 |step _ _ ih=>simp [ih]
theorem RunTo.ok{M:Nat→Ml.M}{C:Nat→Bool}{n0 n:W.Nav}{k:Nat}{rs:List W.Report}(h:RunTo M C n0 k n rs)(h0:NavOk n0)(hc:n0.cycle=0)(hk:k≤1000):NavOk n∧n.cycle=k∧n.c=n0.c∧n.t=n0.t:=by
 induction h with
 |zero=>exact⟨h0,by omega,rfl,rfl⟩
 |step _ hs ih =>
  obtain⟨h1,h2,h3,h4⟩:=ih (by omega)
  have hk:=hs.keep
  exact⟨StepR.ok h1 (by omega) hs,by omega,hk.1.trans h3,hk.2.1.trans h4⟩
theorem RunTo.at_{M:Nat→Ml.M}{C:Nat→Bool}{n0 n:W.Nav}{k:Nat}{rs:List W.Report}(h:RunTo M C n0 k n rs):∀ j,j<k→∃ nj nj' rj,RunTo M C n0 j nj (rs.take j)∧StepR nj (M j) (C j) nj' rj∧RunTo M C n0 (j+1) nj' (rs.take (j+1))∧rs[j]?=some rj:=by
 induction h with
 |zero=>intro j hj;omega
 |@step k n n' rs r h hs ih =>
  intro j hj
  have hl:=h.len
  by_cases e:j=k
  ·subst e
   refine⟨n,n',r,?_,hs,?_,?_⟩
   ·rw [List.take_append_of_le_length (by omega),List.take_of_length_le (by omega)];exact h
   ·rw [List.take_of_length_le (by simp;omega)];exact .step h hs
   ·rw [List.getElem?_append_right (by omega),hl];simp
  ·obtain⟨nj,nj',rj,g1,g2,g3,g4⟩:=ih j (by omega)
   refine⟨nj,nj',rj,?_,g2,?_,?_⟩
   ·rw [List.take_append_of_le_length (by omega)];exact g1
   ·rw [List.take_append_of_le_length (by omega)];exact g3
   ·rw [List.getElem?_append_left (by omega)];exact g4
theorem tell_routes{n:W.Nav}{r r':W.Report}{f:W.Fused}(h:TellR n r f r')(hon:n.place.on=true):r'.routes=n.place.set.list.map W.Rt.path:=by
 obtain⟨pm,ov,rfl⟩:=h
 show (n.tell r f).routes=_
 unfold W.Nav.tell
 dsimp only
 rw [hon]
 rfl
theorem tell_acc{n:W.Nav}{r r':W.Report}{f:W.Fused}(h:TellR n r f r'):r'.accepted=r.accepted:=by
 obtain⟨pm,ov,rfl⟩:=h
 show (n.tell r f).accepted=_
 unfold W.Nav.tell
 dsimp only
 split<;>rfl
end Y
end Go.Proofs.YtllemifiammnnaaGreat
