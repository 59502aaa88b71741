/- Part 14 of the proof. No condition. -/
import Derived.Test.YtllemifiammnnaaGreatG13
import Derived.Test.YtllemifiammnnaaGreatG05
import Derived.Test.YtllemifiammnnaaGreatG09
import Derived.Test.YtllemifiammnnaaGreatG11
set_option linter.unusedVariables false
set_option linter.unusedSimpArgs false
set_option maxRecDepth 100000
set_option maxHeartbeats 4000000
namespace Go.Proofs.YtllemifiammnnaaGreat
section
namespace W
def manyN(l:List Sp)(x:Int):Nat→Nat
 |0=>0
 |n+1=>manyN l x n+if (l.getD n ⟨0,0⟩).lo≤x∧x≤(l.getD n ⟨0,0⟩).hi then 1 else 0
theorem manyN_le(l:List Sp)(x:Int)(n:Nat):manyN l x n≤n:=by
 induction n with
 |zero=>exact Nat.le_refl _
 |succ n ih=>unfold manyN;split<;>omega
theorem manyN_s(l:List Sp)(x:Int)(n:Nat):manyN l x (n+1)=manyN l x n+if (l.getD n ⟨0,0⟩).lo≤x∧x≤(l.getD n ⟨0,0⟩).hi then 1 else 0:=rfl
def byF(l:List Sp)(m:Int):Nat→Int×Bool
 |0=>(0,false)
 |n+1=>if m≤manyN l (l.getD n ⟨0,0⟩).lo l.length∧((byF l m n).2=false∨(l.getD n ⟨0,0⟩).lo<(byF l m n).1) then ((l.getD n ⟨0,0⟩).lo,true) else byF l m n
def byT(l:List Sp)(m:Int):Nat→Int×Bool
 |0=>(0,false)
 |n+1=>if m≤manyN l (l.getD n ⟨0,0⟩).hi l.length∧((byT l m n).2=false∨(byT l m n).1<(l.getD n ⟨0,0⟩).hi) then ((l.getD n ⟨0,0⟩).hi,true) else byT l m n
theorem byF_s(l:List Sp)(m:Int)(n:Nat):byF l m (n+1)=if m≤manyN l (l.getD n ⟨0,0⟩).lo l.length∧((byF l m n).2=false∨(l.getD n ⟨0,0⟩).lo<(byF l m n).1) then ((l.getD n ⟨0,0⟩).lo,true) else byF l m n:=rfl
theorem byT_s(l:List Sp)(m:Int)(n:Nat):byT l m (n+1)=if m≤manyN l (l.getD n ⟨0,0⟩).hi l.length∧((byT l m n).2=false∨(byT l m n).1<(l.getD n ⟨0,0⟩).hi) then ((l.getD n ⟨0,0⟩).hi,true) else byT l m n:=rfl
theorem byF_iff(l:List Sp)(m:Int)(n:Nat):(byF l m n).2=true↔∃ j,j<n∧m≤manyN l (l.getD j ⟨0,0⟩).lo l.length:=by
 induction n with
 |zero=>exact⟨fun h=>by simp [byF] at h,fun ⟨j,hj,_⟩=>by omega⟩
 |succ n ih =>
  rw [byF_s]
  split
  ·rename_i h
   exact⟨fun _=>⟨n,by omega,h.1⟩,fun _=>rfl⟩
  ·rename_i h
   rw [ih]
   refine⟨fun ⟨j,hj,hm⟩=>⟨j,by omega,hm⟩,fun ⟨j,hj,hm⟩=>?_⟩
   rcases Nat.lt_or_ge j n with q|q
   ·exact⟨j,q,hm⟩
   ·obtain rfl:j=n:=by omega
    have:(byF l m j).2=true:=by
     cases e:(byF l m j).2
     ·exact absurd ⟨hm,.inl e⟩ h
     ·rfl
    exact ih.1 this
theorem byT_iff(l:List Sp)(m:Int)(n:Nat):(byT l m n).2=true↔∃ j,j<n∧m≤manyN l (l.getD j ⟨0,0⟩).hi l.length:=by
 induction n with
 |zero=>exact⟨fun h=>by simp [byT] at h,fun ⟨j,hj,_⟩=>by omega⟩
 |succ n ih =>
  rw [byT_s]
  split
  ·rename_i h
   exact⟨fun _=>⟨n,by omega,h.1⟩,fun _=>rfl⟩
  ·rename_i h
   rw [ih]
   refine⟨fun ⟨j,hj,hm⟩=>⟨j,by omega,hm⟩,fun ⟨j,hj,hm⟩=>?_⟩
   rcases Nat.lt_or_ge j n with q|q
   ·exact⟨j,q,hm⟩
   ·obtain rfl:j=n:=by omega
    have:(byT l m j).2=true:=by
     cases e:(byT l m j).2
     ·exact absurd ⟨hm,.inl e⟩ h
     ·rfl
    exact ih.1 this
theorem by_common(a b c:Int×Int):((byF [⟨a.1,a.2⟩,⟨b.1,b.2⟩,⟨c.1,c.2⟩] 3 3).2&&(byT [⟨a.1,a.2⟩,⟨b.1,b.2⟩,⟨c.1,c.2⟩] 3 3).2)=commonS a b c:=by
 have e (x:Int):(3:Int)≤manyN [⟨a.1,a.2⟩,⟨b.1,b.2⟩,⟨c.1,c.2⟩] x 3↔(a.1≤x∧x≤a.2)∧(b.1≤x∧x≤b.2)∧(c.1≤x∧x≤c.2):=by
  have e1:manyN [⟨a.1,a.2⟩,⟨b.1,b.2⟩,⟨c.1,c.2⟩] x 3=0+(if a.1≤x∧x≤a.2 then 1 else 0)+(if b.1≤x∧x≤b.2 then 1 else 0)+(if c.1≤x∧x≤c.2 then 1 else 0):=rfl
  rw [e1]
  constructor
  ·intro h
   split at h<;>split at h<;>split at h<;>first|(simp at h;done)|exact⟨‹_›,‹_›,‹_›⟩
  ·rintro ⟨h1,h2,h3⟩
   rw [if_pos h1,if_pos h2,if_pos h3]
   decide
 have hF:=byF_iff [⟨a.1,a.2⟩,⟨b.1,b.2⟩,⟨c.1,c.2⟩] 3 3
 have hT:=byT_iff [⟨a.1,a.2⟩,⟨b.1,b.2⟩,⟨c.1,c.2⟩] 3 3
 have hl:([⟨a.1,a.2⟩,⟨b.1,b.2⟩,⟨c.1,c.2⟩]:List Sp).length=3:=rfl
 rw [hl] at hF hT
 simp only [e] at hF hT
 rw [Bool.eq_iff_iff,Bool.and_eq_true,hF,hT]
 unfold commonS
 rw [decide_eq_true_eq]
 constructor
 ·rintro ⟨⟨j,hj,h1,h2,h3⟩,-⟩
  omega
 ·intro h
  constructor
  ·rcases Int.le_total a.1 b.1 with q|q<;>rcases Int.le_total b.1 c.1 with q2|q2<;>rcases Int.le_total a.1 c.1 with q3|q3
   all_goals first
    |exact⟨0,by omega,by simp only [List.getD];simp;omega⟩
    |exact⟨1,by omega,by simp only [List.getD];simp;omega⟩
    |exact⟨2,by omega,by simp only [List.getD];simp;omega⟩
  ·rcases Int.le_total a.2 b.2 with q|q<;>rcases Int.le_total b.2 c.2 with q2|q2<;>rcases Int.le_total a.2 c.2 with q3|q3
   all_goals first
    |exact⟨0,by omega,by simp only [List.getD];simp;omega⟩
    |exact⟨1,by omega,by simp only [List.getD];simp;omega⟩
    |exact⟨2,by omega,by simp only [List.getD];simp;omega⟩
def fitN(s:Script)(k:Nat):Nat→Nat
 |0=>0
 |n+1=>fitN s k n+b2n (fitS s n k)
def wrN(c:Conf)(s:Script)(k:Nat):Nat→Nat
 |0=>0
 |n+1=>wrN c s k n+b2n (fitS s n k&&wrongS c s n k)
theorem fitN_s(s:Script)(k n:Nat):fitN s k (n+1)=fitN s k n+b2n (fitS s n k):=rfl
theorem wrN_s(c:Conf)(s:Script)(k n:Nat):wrN c s k (n+1)=wrN c s k n+b2n (fitS s n k&&wrongS c s n k):=rfl
theorem sensors_e(c:Conf)(s:Script)(k:Nat):sensorsMay c s k=if wrN c s k 3=0 then true else if 1<wrN c s k 3∨fitN s k 3<3 then false else !commonS (saysS c s 0 k) (saysS c s 1 k) (saysS c s 2 k):=by
 unfold sensorsMay
 have e1:wrN c s k 3=b2n (fitS s 0 k&&wrongS c s 0 k)+b2n (fitS s 1 k&&wrongS c s 1 k)+b2n (fitS s 2 k&&wrongS c s 2 k):=by
  rw [wrN_s,wrN_s,wrN_s];show 0+_+_+_=_;omega
 have e2:fitN s k 3=b2n (fitS s 0 k)+b2n (fitS s 1 k)+b2n (fitS s 2 k):=by
  rw [fitN_s,fitN_s,fitN_s];show 0+_+_+_=_;omega
 rw [e1,e2]
end W
namespace Y
open Go Go.RowKit Go.Sort
theorem yMany(l:List W.Sp)(x:Int)(hl:l.length≤1000000):Ret Tryz.prog 73 [spsV l,I x] (·=I (W.manyN l x l.length)):=by
 refine enterO tabOk (N:=32) (gs:=[]) (args:=[_,_]) Tryz.func73 rfl rfl rfl (nLe rfl) (fun E hE=>?_)
 conv=>whnf
 refine LoopAt.rule tabOk [(0,_),(1,_),(4,_)] (fun (i:Nat×Nat)=>[(6,.int .i64 (i.1:Int)),(5,.int .i64 (i.2:Int))]) (fun (i:Nat×Nat)=>[]) (fun (i:Nat×Nat)=>i.1≤l.length∧i.2=W.manyN l x i.1) (fun (i:Nat×Nat)=>l.length-i.1) (0,0) (by trivial) ⟨Nat.zero_le _,rfl⟩ (by trivial) (by trivial) (fun _=>⟨rfl,rfl,rfl,by simp [hE]⟩) (fun i hk=>?_)
 obtain⟨i,k⟩:=i
 obtain⟨hk,hm⟩:=hk
 dsimp only at hk hm ⊢
 have hm2:=W.manyN_le l x i
 by_cases hlt:i<l.length
 ·have es:=W.manyN_s l x i
  conv=>whnf
  repeat' (first|((first|refine Br.pt (by assumption) ?_|refine Br.pf (by assumption) ?_|refine Br.pt (by omega) ?_|refine Br.of rfl ?_|refine Ob.mk (by omega) ?_|refine Ob.mk (by unfold W.I64 at *;omega) ?_|refine Ix.nat _ ?_);conv=>whnf)|((refine Br.d (fun h=>?_) (fun h=>?_))<;>conv=>whnf))
  ·refine⟨(i+1,k+1),⟨hlt,?_⟩,?_,(by trivial),(by trivial),(by trivial)⟩
   ·dsimp only;rw [es,if_pos (by constructor<;>assumption),hm]
   ·dsimp only;omega
  ·refine⟨(i+1,k),⟨hlt,?_⟩,?_,(by trivial),(by trivial),(by trivial)⟩
   ·dsimp only;rw [es,if_neg (by omega),hm];rfl
   ·dsimp only;omega
  ·refine⟨(i+1,k),⟨hlt,?_⟩,?_,(by trivial),(by trivial),(by trivial)⟩
   ·dsimp only;rw [es,if_neg (by omega),hm];rfl
   ·dsimp only;omega
 ·obtain rfl:i=l.length:=by omega
  conv=>whnf
  repeat' ((first|refine Br.pf (by omega) ?_|refine FinAt.val rfl ?_);conv=>whnf)
  rw [hm]
  rfl
theorem yBy(l:List W.Sp)(m:Int)(hl:l.length≤1000000):Ret Tryz.prog 43 [spsV l,I m] (·=.tup [.agg [I (W.byF l m l.length).1,I (W.byT l m l.length).1],.bool ((W.byF l m l.length).2&&(W.byT l m l.length).2)]):=by
 have eM (x:Int):=yMany l x hl
 refine enterO tabOk (N:=86) (gs:=[]) (args:=[_,_]) Tryz.func43 rfl rfl rfl (nLe rfl) (fun E hE=>?_)
 conv=>whnf
 refine LoopAt.rule tabOk [(0,_),(1,_),(4,_),(5,_),(6,_)] (fun (i:Nat×Int×Bool)=>[(8,.int .i64 (i.1:Int)),(7,.bool i.2.2)]) (fun (i:Nat×Int×Bool)=>[.blk [I 0,I 0],.blk [I i.2.1,I 0]]) (fun (i:Nat×Int×Bool)=>i.1≤l.length∧i.2=W.byF l m i.1) (fun (i:Nat×Int×Bool)=>l.length-i.1) (0,0,false) (by trivial) ⟨Nat.zero_le _,rfl⟩ (by trivial) (by trivial) (fun _=>⟨rfl,rfl,rfl,by simp [hE]⟩) (fun i hk=>?_)
 ·obtain⟨i,a,f⟩:=i
  obtain⟨hk,hm⟩:=hk
  dsimp only at hk hm ⊢
  by_cases hlt:i<l.length
  ·have es:=W.byF_s l m i
   rw [← hm] at es
   dsimp only at es
   conv=>whnf
   repeat' (first|((first|refine Br.ot (by assumption) ?_|refine Br.of (by assumption) ?_|refine Br.pt (by assumption) ?_|refine Br.pf (by assumption) ?_|refine Br.pt (by omega) ?_|refine Br.ot rfl ?_|refine Br.of rfl ?_|refine CallX.pu (eM _) rfl rfl ?_|refine Ob.mk (by omega) ?_|refine Ob.mk (by unfold W.I64 at *;omega) ?_|refine Drw.loose (by kernel_rfl) ?_|refine Ix.nat _ ?_);conv=>whnf)|((first|refine Br.d (fun h=>?_) (fun h=>?_)|refine Br.mk (fun h=>?_) (fun h=>?_))<;>conv=>whnf))
   ·refine⟨(i+1,(l.getD i ⟨0,0⟩).lo,true),⟨hlt,?_⟩,?_,(by trivial),(by trivial),(by trivial)⟩
    ·dsimp only
     rw [es,if_pos ⟨by assumption,.inl (by simpa using ‹(!f)=true›)⟩]
    ·dsimp only;omega
   ·refine⟨(i+1,(l.getD i ⟨0,0⟩).lo,true),⟨hlt,?_⟩,?_,(by trivial),(by trivial),(by trivial)⟩
    ·dsimp only
     rw [es,if_pos ⟨by assumption,.inr (by assumption)⟩]
    ·dsimp only;omega
   ·refine⟨(i+1,a,f),⟨hlt,?_⟩,?_,(by trivial),(by trivial),(by trivial)⟩
    ·dsimp only
     rw [es,if_neg (fun q=>q.2.elim (fun q2=>by simp_all) (fun q2=>absurd q2 (by assumption)))]
    ·dsimp only;omega
   ·refine⟨(i+1,a,f),⟨hlt,?_⟩,?_,(by trivial),(by trivial),(by trivial)⟩
    ·dsimp only
     rw [es,if_neg (fun q=>absurd q.1 (by assumption))]
    ·dsimp only;omega
  ·obtain rfl:i=l.length:=by omega
   conv=>whnf
   repeat' ((refine Br.pf (by omega) ?_);conv=>whnf)
   refine LoopAt.rule tabOk [(0,_),(1,_),(4,_),(5,_),(6,_),(7,_)] (fun (i:Nat×Int×Bool)=>[(10,.int .i64 (i.1:Int)),(9,.bool i.2.2)]) (fun (i:Nat×Int×Bool)=>[.blk [I 0,I 0],.blk [I a,I i.2.1]]) (fun (i:Nat×Int×Bool)=>i.1≤l.length∧i.2=W.byT l m i.1) (fun (i:Nat×Int×Bool)=>l.length-i.1) (0,0,false) (by trivial) ⟨Nat.zero_le _,rfl⟩ (by trivial) (by trivial) (fun _=>⟨rfl,rfl,rfl,by simp [hE]⟩) (fun i hk=>?_)
   obtain⟨i,b,g⟩:=i
   obtain⟨hk,hn⟩:=hk
   dsimp only at hk hn ⊢
   by_cases hlt:i<l.length
   ·have es:=W.byT_s l m i
    rw [← hn] at es
    dsimp only at es
    conv=>whnf
    repeat' (first|((first|refine Br.ot (by assumption) ?_|refine Br.of (by assumption) ?_|refine Br.pt (by assumption) ?_|refine Br.pf (by assumption) ?_|refine Br.pt (by omega) ?_|refine Br.ot rfl ?_|refine Br.of rfl ?_|refine CallX.pu (eM _) rfl rfl ?_|refine Ob.mk (by omega) ?_|refine Ob.mk (by unfold W.I64 at *;omega) ?_|refine Drw.loose (by kernel_rfl) ?_|refine Ix.nat _ ?_);conv=>whnf)|((first|refine Br.d (fun h=>?_) (fun h=>?_)|refine Br.mk (fun h=>?_) (fun h=>?_))<;>conv=>whnf))
    ·refine⟨(i+1,(l.getD i ⟨0,0⟩).hi,true),⟨hlt,?_⟩,?_,(by trivial),(by trivial),(by trivial)⟩
     ·dsimp only
      rw [es,if_pos ⟨by assumption,.inl (by simpa using ‹(!g)=true›)⟩]
     ·dsimp only;omega
    ·refine⟨(i+1,(l.getD i ⟨0,0⟩).hi,true),⟨hlt,?_⟩,?_,(by trivial),(by trivial),(by trivial)⟩
     ·dsimp only
      rw [es,if_pos ⟨by assumption,.inr (by assumption)⟩]
     ·dsimp only;omega
    ·refine⟨(i+1,b,g),⟨hlt,?_⟩,?_,(by trivial),(by trivial),(by trivial)⟩
     ·dsimp only
      rw [es,if_neg (fun q=>q.2.elim (fun q2=>by simp_all) (fun q2=>absurd q2 (by assumption)))]
     ·dsimp only;omega
    ·refine⟨(i+1,b,g),⟨hlt,?_⟩,?_,(by trivial),(by trivial),(by trivial)⟩
     ·dsimp only
      rw [es,if_neg (fun q=>absurd q.1 (by assumption))]
     ·dsimp only;omega
   ·obtain rfl:i=l.length:=by omega
    rw [← hm,← hn]
    conv=>whnf
    repeat' (first|((first|refine Br.ot (by assumption) ?_|refine Br.of (by assumption) ?_|refine Br.pf (by omega) ?_|refine FinAt.val rfl ?_);conv=>whnf)|((refine Br.mk (fun h=>?_) (fun h=>?_))<;>conv=>whnf))
    all_goals simp_all
    all_goals rfl
theorem ySensors(c:W.Conf)(s:W.Script)(k:Nat)(hk:k<s.ticks.length)(hb:ScrB s)(hg:SGo c s):Ret Tryz.prog 27 [confV c,scrV s,I k] (·=.bool (W.sensorsMay c s k)):=by
 have hn:=hg.n
 have eF (i:Nat) (hi:i≤2):=yFit s i k hi hk hn
 have eW (i:Nat) (hi:i≤2):=yWrong28 c s i k hi hk hg
 have s0:=ySays c s 0 k (by omega) hk hb hg
 have s1:=ySays c s 1 k (by omega) hk hb hg
 have s2:=ySays c s 2 k (by omega) hk hb hg
 have eB:=yBy [⟨(W.saysS c s 0 k).1,(W.saysS c s 0 k).2⟩,⟨(W.saysS c s 1 k).1,(W.saysS c s 1 k).2⟩,⟨(W.saysS c s 2 k).1,(W.saysS c s 2 k).2⟩] 3 (by simp)
 have ec:=W.by_common (W.saysS c s 0 k) (W.saysS c s 1 k) (W.saysS c s 2 k)
 rw [show (([⟨(W.saysS c s 0 k).1,(W.saysS c s 0 k).2⟩,⟨(W.saysS c s 1 k).1,(W.saysS c s 1 k).2⟩,⟨(W.saysS c s 2 k).1,(W.saysS c s 2 k).2⟩]:List W.Sp)).length=3 from rfl,ec] at eB
 rw [W.sensors_e]
 refine enterO tabOk (N:=58) (gs:=[]) (args:=[_,_,_]) Tryz.func27 rfl rfl rfl (nLe rfl) (fun E hE=>?_)
 conv=>whnf
 refine LoopAt.rule tabOk [(2,_),(3,_),(4,_),(6,_)] (fun (i:Nat×Nat×Nat)=>[(9,.int .i64 (i.1:Int)),(7,.int .i64 (i.2.1:Int)),(8,.int .i64 (i.2.2:Int))]) (fun (i:Nat×Nat×Nat)=>[.blk (confC c),.blk (scrC s)]) (fun (i:Nat×Nat×Nat)=>i.1≤3∧i.2.1=W.fitN s k i.1∧i.2.2=W.wrN c s k i.1∧i.2.1≤i.1∧i.2.2≤i.1) (fun (i:Nat×Nat×Nat)=>3-i.1) (0,0,0) (by trivial) ⟨by omega,rfl,rfl,Nat.le_refl _,Nat.le_refl _⟩ (by trivial) (by trivial) (fun _=>⟨rfl,rfl,rfl,by simp [hE]⟩) (fun i hk=>?_)
 obtain⟨i,f,w⟩:=i
 obtain⟨hi,hf,hw,hf3,hw3⟩:=hk
 dsimp only at hi hf hw hf3 hw3 ⊢
 by_cases hlt:i<3
 ·have hs:=W.fitN_s s k i
  have ws:=W.wrN_s c s k i
  rw [← hf] at hs
  rw [← hw] at ws
  cases e1:W.fitS s i k<;>cases e2:W.wrongS c s i k<;>rw [e1] at hs ws<;>rw [e2] at ws
  all_goals
   have eF':=eF i (by omega)
   have eW':=eW i (by omega)
   rw [e1] at eF'
   rw [e2] at eW'
   conv=>whnf
   repeat' ((first|refine Br.pt (by omega) ?_|refine Br.ot rfl ?_|refine Br.of rfl ?_|refine CallS.q (eF') rfl ?_|refine CallS.q (eW') rfl ?_|refine Ob.mk (by unfold W.I64 at *;omega) ?_);conv=>whnf)
  ·refine⟨(i+1,f,w),⟨hlt,hs.symm,ws.symm,by dsimp only;omega,by dsimp only;omega⟩,by dsimp only;omega,(by trivial),(by trivial),(by trivial)⟩
  ·refine⟨(i+1,f,w),⟨hlt,hs.symm,ws.symm,by dsimp only;omega,by dsimp only;omega⟩,by dsimp only;omega,(by trivial),(by trivial),(by trivial)⟩
  ·refine⟨(i+1,f+1,w),⟨hlt,hs.symm,ws.symm,by dsimp only;omega,by dsimp only;omega⟩,by dsimp only;omega,(by trivial),(by trivial),(by trivial)⟩
  ·refine⟨(i+1,f+1,w+1),⟨hlt,hs.symm,ws.symm,by dsimp only;omega,by dsimp only;omega⟩,by dsimp only;omega,(by trivial),(by trivial),(by trivial)⟩
 ·obtain rfl:i=3:=by omega
  rw [← hf,← hw]
  conv=>whnf
  repeat' (first|((first|(refine Drw.len 14 12 rfl rfl ?_;refine Drw.lateP tabOk [0,1,2,3,4,5,6,7,8,9,10,11] [] [12,13] (by kernel_rfl) (by kernel_rfl) ?_)|refine Br.pt (by assumption) ?_|refine Br.pf (by assumption) ?_|refine Br.nf (by assumption) ?_|refine Br.ot rfl ?_|refine CallD.pu (s0) rfl ?_|refine CallD.pu (s1) rfl ?_|refine CallD.pu (s2) rfl ?_|refine BsN.mark ?_|refine FinAt.val rfl ?_);conv=>whnf)|((refine Br.d (fun h=>?_) (fun h=>?_))<;>conv=>whnf))
  ·rw [if_pos (by omega)];rfl
  ·rw [if_neg (by omega),if_pos (by omega)];rfl
  ·rw [if_neg (by omega),if_pos (by omega)];rfl
  ·rw [if_neg (by omega),if_neg (by omega)]
   refine CallS.call (CallN.retE [2] (RvL.cons (Rv.sl (by simp) rfl (by decide) (fun j hj=>?_)) (RvL.pu rfl)) (by repeat (first|exact Als.nil _|refine Als.cons rfl rfl ?_)) (by simp [hE]) eB ?_)
   ·obtain rfl|rfl|rfl:j=0∨j=1∨j=2:=by omega
    all_goals exact⟨nLe rfl,RvL.pu rfl⟩
   ·conv=>whnf
    repeat' ((refine FinAt.val rfl ?_);conv=>whnf)
    rfl
end Y
end
namespace Y
open Go Go.RowKit Go.Sort
section
structure AdN(c:W.Conf)(t:W.Trk)(s:W.Script):Prop where
 chk:RChk t
 conf:ConfB c
 route:W.routeMay t s.route=true
 on:W.onMay t s=true
 speeds:W.speedsMay c s=true
 nums:W.numbersMay c s=0
theorem fitsR_zero{c:W.Conf}{t:W.Trk}(h:(W.fitsR c t).1=0):c.wrongR=0∧t.checkR.1=0:=by
 unfold W.fitsR at h
 split at h
 ·cases h
 ·next h1 =>
  split at h
  ·cases h
  ·next h2=>exact⟨by omega,by omega⟩
theorem route_len{t:W.Trk}{l:List Int}(h:W.routeMay t l=true):1≤l.length∧l.length≤400:=by
 unfold W.routeMay at h
 simp only [Bool.and_eq_true,decide_eq_true_eq] at h
 exact h.1
theorem route_in{t:W.Trk}{l:List Int}(h:W.routeMay t l=true):W.InOk t l:=fun k hk=>by
 unfold W.routeMay at h
 simp only [Bool.and_eq_true] at h
 have:=W.allB_at h.2 k hk
 unfold W.routeAt at this
 simp only [Bool.and_eq_true,decide_eq_true_eq] at this
 exact this.1
theorem RChk.lens{t:W.Trk}(h:RChk t):W.LensOk t:=fun k hk=>by
 have:=h.sg k hk
 unfold W.segMay at this
 simp only [Bool.and_eq_true,decide_eq_true_eq] at this
 omega
theorem on_facts{t:W.Trk}{s:W.Script}(h:W.onMay t s=true):s.ticks.length≤4096∧(0≤s.start∧s.start≤W.startOf t s.route s.route.length)∧∀ i,i<s.ticks.length→0≤s.place (i+1)∧s.place (i+1)≤W.startOf t s.route s.route.length:=by
 unfold W.onMay at h
 simp only [Bool.and_eq_true,decide_eq_true_eq] at h
 refine⟨h.1.1,h.1.2,fun i hi=>?_⟩
 have:=W.allB_at h.2 i hi
 unfold W.onAt at this
 simp only [Bool.and_eq_true,decide_eq_true_eq] at this
 exact this.2
theorem speed_facts{c:W.Conf}{s:W.Script}(h:W.speedsMay c s=true):(-c.maxSpeed≤s.v0∧s.v0≤c.maxSpeed)∧∀ i,i<s.ticks.length→(-c.maxSpeed≤(s.tick i).v∧(s.tick i).v≤c.maxSpeed)∧(-c.maxAccel≤(s.tick i).v-s.ahead i∧(s.tick i).v-s.ahead i≤c.maxAccel):=by
 unfold W.speedsMay at h
 simp only [Bool.and_eq_true,Bool.not_eq_true'] at h
 refine⟨(W.far_iffn _ _).1 h.1,fun i hi=>?_⟩
 have:=W.allB_at h.2 i hi
 unfold W.speedAt at this
 simp only [Bool.and_eq_true,Bool.not_eq_true'] at this
 exact⟨(W.far_iffn _ _).1 this.1,(W.far_iffn _ _).1 this.2⟩
theorem num_facts{c:W.Conf}{s:W.Script}(h:W.numbersMay c s=0):(c.circLo≤s.circ0∧s.circ0≤c.circHi∧0≤s.phase0∧s.phase0<s.circ0)∧(c.circLo≤s.circ1∧s.circ1≤c.circHi∧0≤s.phase1∧s.phase1<s.circ1) ∧
  ∀ i,i<s.ticks.length→(-1099511627776≤(s.tick i).slip0∧(s.tick i).slip0≤1099511627776)∧(-1099511627776≤(s.tick i).slip1∧(s.tick i).slip1≤1099511627776)∧(-1073741824≤(s.tick i).rad∧(s.tick i).rad≤1073741824)∧(-c.accErr≤(s.tick i).acc∧(s.tick i).acc≤c.accErr):=by
 unfold W.numbersMay at h
 split at h
 ·cases h
 ·next h1 =>
  split at h
  ·next h2 =>
   simp only [Bool.or_eq_true,Bool.not_eq_true',not_or,Bool.not_eq_false] at h1
   obtain⟨h3,h4⟩:=h1
   unfold W.circMay at h3 h4
   rw [decide_eq_true_eq] at h3 h4
   refine⟨h3,h4,fun i hi=>?_⟩
   have:=W.allB_at h2 i hi
   unfold W.tickMay at this
   simp only [Bool.and_eq_true,Bool.not_eq_true'] at this
   exact⟨(W.far_iffn _ _).1 this.1.1.1,(W.far_iffn _ _).1 this.1.1.2,(W.far_iffn _ _).1 this.1.2,(W.far_iffn _ _).1 this.2⟩
  ·cases h
variable{c:W.Conf}{t:W.Trk}{s:W.Script}
theorem AdN.num(h:AdN c t s):W.NumOk s s.ticks.length:=by
 have h1:=speed_facts h.speeds
 have h2:=num_facts h.nums
 have hc:=h.conf.circLo
 have hd:=h.conf.circHi
 have hm:=h.conf.maxSpeed
 exact⟨fun k hk=>by have:=(h1.2 k hk).1;omega,fun k hk=>(h2.2.2 k hk).1,fun k hk=>(h2.2.2 k hk).2.1,by omega,by omega,by omega,by omega⟩
theorem AdN.sgo(h:AdN c t s):SGo c s:=⟨h.conf,(on_facts h.on).1,h.num,fun k hk=>((num_facts h.nums).2.2 k hk).2.2.1⟩
theorem AdN.end_(h:AdN c t s):W.startOf t s.route s.route.length≤439804651110400:=by
 have h1:=(W.startOf_bd h.chk.lens (route_in h.route) s.route.length (Nat.le_refl _)).2
 have h2:=route_len h.route
 omega
theorem AdN.place(h:AdN c t s)(k:Nat)(hk:k≤s.ticks.length):0≤s.place k∧s.place k≤439804651110400:=by
 have he:=h.end_
 have ho:=on_facts h.on
 cases k with
 |zero=>show 0≤s.start∧s.start≤_;omega
 |succ k=>have:=ho.2.2 k hk;omega
theorem AdN.vok(h:AdN c t s)(n:Nat)(hn:n≤s.ticks.length):W.VOk s n:=by
 have h1:=h.num
 have h0:=h.place 0 (Nat.zero_le _)
 have h0':s.place 0=s.start:=rfl
 exact⟨by omega,fun k hk=>by have:=h1.v k (by omega);omega⟩
theorem findId_lt(t:W.Trk)(id:Int):W.findId t id<0∨(0≤W.findId t id∧W.findId t id<t.grps.length):=by
 unfold W.findId W.firstI
 cases e:(List.range t.grps.length).find? _ with
 |none=>exact .inl (by decide)
 |some k =>
  have:=List.mem_range.1 (List.mem_of_find?_eq_some e)
  exact .inr ⟨Int.natCast_nonneg _,by show (k:Int) < _;omega⟩
theorem nominal_find{r:W.Read}(h:(W.nominal t s r).2=true):(0≤W.findId t r.group∧W.findId t r.group<t.grps.length)∧(0≤r.index∧r.index<s.route.length)∧(W.nominal t s r).1=W.startOf t s.route r.index.toNat+(t.grp (W.findId t r.group)).offset:=by
 unfold W.nominal at h ⊢
 split at h
 ·cases h
 ·next h1 =>
  rw [if_neg h1]
  have:=findId_lt t r.group
  exact⟨by omega,by omega,rfl⟩
theorem yRead(r:W.Read)(h:AdN c t s)(hb:ScrB s)(h0:0≤r.cycle)(h1:r.cycle<s.ticks.length)(hp:W.I64 r.point):Ret Tryz.prog 44 [confV c,trkV t,scrV s,.agg (readC r)] (·=.bool (W.readMay c t s r)):=by
 have hg4:=h.chk.g
 have hr4:=route_len h.route
 have hn4:=(on_facts h.on).1
 have hof:∀ k,k<t.grps.length→0≤(t.gp k).offset∧(t.gp k).offset≤1099511627776:=fun k hk=>by
  have h1:=h.chk.gr hk
  have h2:=h.chk.ok.len (t.gp k).seg.toNat (by omega)
  have e2:t.len (t.gp k).seg=(t.segs.getD (t.gp k).seg.toNat default).length:=rfl
  omega
 have eN:=yNominal t s r hb (by omega) (by omega) h.chk.lens (route_in h.route) hof
 have eA:=yAt s r.cycle hb (by omega) (by omega) (by omega) (h.vok _ (by omega))
 have eB:=yAt s (r.cycle+1) hb (by omega) (by omega) (by omega) (h.vok _ (by omega))
 have eF:=yFind t r.group (by omega)
 unfold W.readMay
 by_cases hn:(W.nominal t s r).2=true
 ·have hf:=nominal_find hn
  rw [if_pos hn]
  rw [hn] at eN
  have pa:=h.place r.cycle.toNat (by omega)
  have pb:=h.place (r.cycle+1).toNat (by omega)
  have hgr:=h.chk.gr (i:=(W.findId t r.group).toNat) (by omega)
  have hant:=h.conf.antenna
  have eg:t.grp (W.findId t r.group)=t.grps.getD (W.findId t r.group).toNat default:=rfl
  have eg':t.gp (W.findId t r.group).toNat=t.grps.getD (W.findId t r.group).toNat default:=rfl
  rw [eg'] at hgr
  rw [eg] at hf ⊢
  have hofk:=hof (W.findId t r.group).toNat (by omega)
  rw [eg'] at hofk
  have hst:=W.startOf_bd h.chk.lens (route_in h.route) r.index.toNat (by omega)
  have hX:=yFar (r.point-(W.nominal t s r).1) ((t.grps.getD (W.findId t r.group).toNat default).acc+c.antenna) (by omega) (by omega)
  unfold W.I64 at hp
  refine enterO tabOk (N:=67) (gs:=[]) (args:=[_,_,_,_]) Tryz.func44 rfl rfl rfl (nLe rfl) (fun E hE=>?_)
  conv=>whnf
  repeat' (first|((first|(refine Drw.len 10 9 rfl rfl ?_;refine Drw.allocM tabOk [0,1,2,3,4,5,6,7,8] [0,1,2,3,4,5,6,7,8] [[]] [9] 8 (by kernel_rfl) (by kernel_rfl) (by kernel_rfl) (by kernel_rfl) rfl (by simp [hE]) ?_)|refine Br.pt (by assumption) ?_|refine Br.pf (by assumption) ?_|refine Br.of rfl ?_|refine CallS.q (eN) rfl ?_|refine CallS.q (eA) rfl ?_|refine CallS.q (eB) rfl ?_|refine CallS.q (hX) rfl ?_|refine CallD.pu (eF) rfl ?_|refine Ob.mk (by omega) ?_|refine Ob.mk (by unfold W.I64 at *;omega) ?_|refine Ix.tn (by omega) ?_|refine FinAt.val rfl ?_);conv=>whnf)|((refine Br.d (fun h=>?_) (fun h=>?_))<;>conv=>whnf))
  ·show AV.bool _=AV.bool _
   congr 1
   dsimp only
   rw [decide_eq_true (by assumption),decide_eq_true (by assumption)]
   rfl
  ·show AV.bool _=AV.bool _
   congr 1
   dsimp only
   rw [decide_eq_false (p:=r.point≤max _ _) (by assumption),Bool.and_false]
   rfl
  ·show AV.bool _=AV.bool _
   congr 1
   dsimp only
   rw [decide_eq_false (by assumption)]
   rfl
 ·rw [if_neg hn]
  rw [show (W.nominal t s r).2=false by simpa using hn] at eN
  refine enterO tabOk (N:=67) (gs:=[]) (args:=[_,_,_,_]) Tryz.func44 rfl rfl rfl (nLe rfl) (fun E hE=>?_)
  conv=>whnf
  repeat' ((first|refine Br.ot rfl ?_|refine CallS.q (eN) rfl ?_|refine FinAt.val rfl ?_);conv=>whnf)
  rfl
theorem nb_t{b:Bool}(h:(!b)=true):b=false:=by cases b<;>simp_all
theorem nb_f{b:Bool}(h:(!b)=false):b=true:=by cases b<;>simp_all
theorem yReads(h:AdN c t s)(hb:ScrB s)(hr4:s.reads.length≤1000000)(hI:∀ i,i<s.reads.length→W.I64 (s.reads.getD i default).cycle∧W.I64 (s.reads.getD i default).point):Ret Tryz.prog 28 [confV c,trkV t,scrV s] (·=.bool (W.readsMay c t s)):=by
 have hn4:=(on_facts h.on).1
 refine enterO tabOk (N:=54) (gs:=[]) (args:=[_,_,_]) Tryz.func28 rfl rfl rfl (nLe rfl) (fun E hE=>?_)
 conv=>whnf
 refine LoopAt.rule tabOk [(3,_),(4,_),(5,_),(6,_)] (fun (i:Nat)=>[(7,.int .i64 (i:Int))]) (fun (i:Nat)=>[.blk (confC c),.blk [sgsV t.segs,gpsV t.grps],.blk (scrC s)]) (fun (i:Nat)=>i≤s.reads.length∧∀ j,j<i→W.readAt c t s j=true) (fun (i:Nat)=>s.reads.length-i) 0 (by trivial) ⟨Nat.zero_le _,fun j hj=>absurd hj (by omega)⟩ (by trivial) (by trivial) (fun _=>⟨rfl,rfl,rfl,by simp [hE]⟩) (fun i hk=>?_)
 obtain⟨hk,hno⟩:=hk
 by_cases hlt:i<s.reads.length
 ·have hI1:=(hI i hlt).1
  have hI2:=(hI i hlt).2
  unfold W.I64 at hI1
  have eR:=fun h0 h1=>yRead (s.reads.getD i default) h hb h0 h1 hI2
  have er:W.readAt c t s i=(decide (0≤(s.reads.getD i default).cycle∧(s.reads.getD i default).cycle<s.ticks.length∧(i=0∨(s.reads.getD (i-1) default).cycle<(s.reads.getD i default).cycle))&&W.readMay c t s (s.reads.getD i default)):=rfl
  have no:W.readAt c t s i=false→AV.bool false=.bool (W.readsMay c t s):=fun hf=>by
   unfold W.readsMay;rw [W.allB_no hlt hf]
  by_cases hz:i=0
  ·subst hz
   conv=>whnf
   repeat' (first|((first|refine Br.pt (by assumption) ?_|refine Br.pf (by assumption) ?_|refine Br.pt (by omega) ?_|refine Br.pf (by omega) ?_|refine Br.ot rfl ?_|refine Br.of rfl ?_|refine CallS.q (eR (by omega) (by omega)) rfl ?_|refine Ob.mk (by omega) ?_|refine Ob.mk (by unfold W.I64 at *;omega) ?_|refine Drw.loose (by kernel_rfl) ?_|refine Ix.of 0 rfl ?_|refine FinAt.val rfl ?_);conv=>whnf)|((first|refine Br.d (fun h=>?_) (fun h=>?_)|refine Br.mk (fun h=>?_) (fun h=>?_))<;>conv=>whnf))
   all_goals first
    |exact no (by rw [er,decide_eq_false (by omega)];rfl)
    |exact no (by rw [er,show W.readMay c t s (s.reads.getD _ default)=false from nb_t (by assumption)];exact Bool.and_false _)
    |exact⟨_+1,⟨hlt,W.all_step hno (by rw [er,decide_eq_true (by omega),show W.readMay c t s (s.reads.getD _ default)=true from nb_f (by assumption)];rfl)⟩,by omega,(by trivial),(by trivial),(by trivial)⟩
  ·have hi1:((i:Int)-1).toNat=i-1:=by omega
   rw [← hi1] at er
   conv=>whnf
   repeat' (first|((first|refine Br.pt (by assumption) ?_|refine Br.pf (by assumption) ?_|refine Br.pt (by omega) ?_|refine Br.ot rfl ?_|refine CallS.q (eR (by omega) (by omega)) rfl ?_|refine Ob.mk (by omega) ?_|refine Ob.mk (by unfold W.I64 at *;omega) ?_|refine Drw.loose (by kernel_rfl) ?_|refine Ix.nat _ ?_|refine Ix.tn (by omega) ?_|refine FinAt.val rfl ?_);conv=>whnf)|((first|refine Br.d (fun h=>?_) (fun h=>?_)|refine Br.mk (fun h=>?_) (fun h=>?_))<;>conv=>whnf))
   all_goals first
    |exact no (by rw [er,decide_eq_false (by omega)];rfl)
    |exact no (by rw [er,show W.readMay c t s (s.reads.getD _ default)=false from nb_t (by assumption)];exact Bool.and_false _)
    |exact⟨_+1,⟨hlt,W.all_step hno (by rw [er,decide_eq_true (by omega),show W.readMay c t s (s.reads.getD _ default)=true from nb_f (by assumption)];rfl)⟩,by omega,(by trivial),(by trivial),(by trivial)⟩
 ·obtain rfl:i=s.reads.length:=by omega
  conv=>whnf
  repeat' ((first|refine Br.pf (by omega) ?_|refine FinAt.val rfl ?_);conv=>whnf)
  unfold W.readsMay
  rw [W.allB_yes hno]
  rfl
end
section
variable{c:W.Conf}{t:W.Trk}{s:W.Script}
theorem getD_memB{α:Type}{l:List α}{i:Nat}(d:α)(h:i<l.length):l.getD i d∈l:=by
 rw [List.getD_eq_getElem?_getD,List.getElem?_eq_getElem h];exact List.getElem_mem h
theorem yJunk(s:W.Script)(hb:ScrB s)(hn:s.ticks.length≤1000000)(hl:∀ i,i<s.ticks.length→∀ j,j<((s.ticks.getD i default).junk).length→((s.ticks.getD i default).junk.getD j []).length≤1000000):Ret Tryz.prog 29 [scrV s] (·=.bool (W.junkMay s)):=by
 refine enterO tabOk (N:=55) (gs:=[]) (args:=[_]) Tryz.func29 rfl rfl rfl (nLe rfl) (fun E hE=>?_)
 conv=>whnf
 refine LoopAt.rule tabOk [(1,_),(2,_)] (fun (i:Nat)=>[(3,.int .i64 (i:Int))]) (fun (i:Nat)=>[.blk (scrC s)]) (fun (i:Nat)=>i≤s.ticks.length∧∀ j,j<i→W.junkAt s j=true) (fun (i:Nat)=>s.ticks.length-i) 0 (by trivial) ⟨Nat.zero_le _,fun j hj=>absurd hj (by omega)⟩ (by trivial) (by trivial) (fun _=>⟨rfl,rfl,rfl,by simp [hE]⟩) (fun i hk=>?_)
 obtain⟨hk,hno⟩:=hk
 by_cases hlt:i<s.ticks.length
 ·have er:W.junkAt s i=(decide ((s.ticks.getD i default).junk.length≤27)&&W.allB (fun j=>W.junkText i ((s.ticks.getD i default).junk.getD j [])) (s.ticks.getD i default).junk.length):=rfl
  have no:W.junkAt s i=false→AV.bool false=.bool (W.junkMay s):=fun hf=>by
   unfold W.junkMay;rw [W.allB_no hlt hf]
  have hmem:s.ticks.getD i default∈s.ticks:=by simp [List.getD,hlt]
  conv=>whnf
  repeat' (first|((first|refine Br.pt (by omega) ?_|refine Ob.mk (by omega) ?_|refine Ix.nat _ ?_|refine FinAt.val rfl ?_);conv=>whnf)|((refine Br.d (fun h=>?_) (fun h=>?_))<;>conv=>whnf))
  ·exact no (by rw [er,decide_eq_false (by omega)];rfl)
  ·obtain⟨q,rfl⟩:∃ q,q=i:=⟨i,rfl⟩
   refine LoopAt.rule tabOk [(1,_),(2,_),(3,_)] (fun (i:Nat)=>[(4,.int .i64 (i:Int))]) (fun (i:Nat)=>[.blk (scrC s)]) (fun (i:Nat)=>i≤(s.ticks.getD q default).junk.length∧∀ j,j<i→W.junkText q ((s.ticks.getD q default).junk.getD j [])=true) (fun (i:Nat)=>(s.ticks.getD q default).junk.length-i) 0 (by trivial) ⟨Nat.zero_le _,fun j hj=>absurd hj (by omega)⟩ (by trivial) (by trivial) (fun _=>⟨rfl,rfl,rfl,by simp [hE]⟩) (fun i hk=>?_)
   obtain⟨hk2,hno2⟩:=hk
   by_cases hlt2:i<(s.ticks.getD q default).junk.length
   ·have hmem2:(s.ticks.getD q default).junk.getD i []∈(s.ticks.getD q default).junk:=getD_memB _ hlt2
    have eG:=r7Get ((s.ticks.getD q default).junk.getD i []) (hb _ hmem _ hmem2) (hl q hlt i hlt2)
    have e5:((q%256:Nat):Int)=(q:Int)%256:=rfl
    have er2:W.junkText q ((s.ticks.getD q default).junk.getD i [])=!(decide ((Fr.get ((s.ticks.getD q default).junk.getD i [])).err=0)&&decide ((Fr.get ((s.ticks.getD q default).junk.getD i [])).seq=(q:Int)%256)):=rfl
    conv=>whnf
    repeat' (first|((first|refine Br.pt (by assumption) ?_|refine Br.pf (by assumption) ?_|refine Br.pt (by omega) ?_|refine Br.of rfl ?_|refine CallS.q (eG) rfl ?_|refine Ob.mk (by omega) ?_|refine Ob.mk (by unfold W.I64 at *;omega) ?_|refine Ix.nat _ ?_|refine FinAt.val rfl ?_);conv=>whnf)|((refine Br.d (fun h=>?_) (fun h=>?_))<;>conv=>whnf))
    ·refine no ?_
     rw [er,W.allB_no hlt2 (by rw [er2,decide_eq_true (by assumption),decide_eq_true (by assumption)];rfl),Bool.and_false]
    ·exact⟨i+1,⟨hlt2,W.all_step hno2 (by rw [er2,decide_eq_false (p:=_=(q:Int)%256) (by assumption),Bool.and_false];rfl)⟩,by omega,(by trivial),(by trivial),(by trivial)⟩
    ·exact⟨i+1,⟨hlt2,W.all_step hno2 (by rw [er2,decide_eq_false (p:=_=(0:Int)) (by assumption)];rfl)⟩,by omega,(by trivial),(by trivial),(by trivial)⟩
   ·obtain rfl:i=(s.ticks.getD q default).junk.length:=by omega
    conv=>whnf
    repeat' ((first|refine Br.pf (by omega) ?_|refine Ob.mk (by omega) ?_|refine Ob.mk (by unfold W.I64 at *;omega) ?_|refine Ix.nat _ ?_);conv=>whnf)
    exact⟨q+1,⟨hlt,W.all_step hno (by rw [er,decide_eq_true (by omega),W.allB_yes hno2];rfl)⟩,by omega,(by trivial),(by trivial),(by trivial)⟩
 ·obtain rfl:i=s.ticks.length:=by omega
  conv=>whnf
  repeat' ((first|refine Br.pf (by omega) ?_|refine FinAt.val rfl ?_);conv=>whnf)
  unfold W.junkMay
  rw [W.allB_yes hno]
  rfl
structure ScrO(s:W.Script):Prop where
 b:ScrB s
 ticks:s.ticks.length≤1000000
 reads:s.reads.length≤1000000
 route:s.route.length≤1000000
 junk:∀ i,i<s.ticks.length→∀ j,j<((s.ticks.getD i default).junk).length→((s.ticks.getD i default).junk.getD j []).length≤1000000
 rd:∀ i,i<s.reads.length→W.I64 (s.reads.getD i default).cycle∧W.I64 (s.reads.getD i default).point
 grp:∀ i,i<s.reads.length→W.I64 (s.reads.getD i default).group
theorem yAdmit(c:W.Conf)(t:W.Trk)(s:W.Script)(h0:t.segs.length≤1000000)(h1:t.grps.length≤1000000)(hs:ScrO s):Ret Tryz.prog 15 [confV c,trkV t,scrV s] (·=I (W.admits c t s)):=by
 have eFit:=yFits c t h0 h1
 have hb:=hs.b
 have ht:=hs.ticks
 unfold W.admits
 refine enterO tabOk (N:=58) (gs:=[]) (args:=[_,_,_]) Tryz.func15 rfl rfl rfl (nLe rfl) (fun E hE=>?_)
 by_cases a1:(W.fitsR c t).1=0
 ·obtain⟨c1,c2⟩:=fitsR_zero a1
  have hR:=RChk.of c2
  have eRt:=yRoute t s.route h0 hs.route (fun k hk=>by have:=hR.ok.nok.2.1 k hk;omega)
  have hC:=(ConfOk.of (wrongR_ok c1)).b
  rw [if_neg (fun q=>q a1)]
  rw [a1] at eFit
  by_cases a2:W.routeMay t s.route=true
  ·rw [if_neg (by rw [a2];decide)]
   rw [a2] at eRt
   have eOn:=yOn t s hb (route_len a2).2 hs.ticks hR.lens (route_in a2)
   by_cases a3:W.onMay t s=true
   ·rw [if_neg (by rw [a3];decide)]
    rw [a3] at eOn
    have hn:=(on_facts a3).1
    have eSp:=ySpeeds c s hb hs.ticks (by have:=hC.maxSpeed;omega) hC.maxSpeed.2 (by have:=hC.maxAccel;omega) hC.maxAccel.2
    by_cases a4:W.speedsMay c s=true
    ·rw [if_neg (by rw [a4];decide)]
     rw [a4] at eSp
     have eNu:=yNumbers c s hb hs.ticks hC.accErr.1 hC.accErr.2
     by_cases a5:W.numbersMay c s=0
     ·rw [if_neg (fun q=>q a5)]
      rw [a5] at eNu
      have hA:AdN c t s:=⟨hR,hC,a2,a3,a4,a5⟩
      have eRd:=yReads hA hb hs.reads hs.rd
      have eJ:=yJunk s hb hs.ticks hs.junk
      conv=>whnf
      repeat' ((first|refine Br.nf (by omega) ?_|refine Br.of rfl ?_|refine CallS.q (eFit) rfl ?_|refine CallS.q (eRt) rfl ?_|refine CallS.q (eOn) rfl ?_|refine CallS.q (eSp) rfl ?_|refine CallS.q (eNu) rfl ?_);conv=>whnf)
      refine LoopAt.rule tabOk [(3,_),(4,_),(5,_),(6,_)] (fun (i:Nat)=>[(10,.int .i64 (i:Int))]) (fun (i:Nat)=>[.blk (confC c),.blk [sgsV t.segs,gpsV t.grps],.blk (scrC s)]) (fun (i:Nat)=>i≤s.ticks.length∧∀ j,j<i→W.sensorsMay c s j=true) (fun (i:Nat)=>s.ticks.length-i) 0 (by trivial) ⟨Nat.zero_le _,fun j hj=>absurd hj (by omega)⟩ (by trivial) (by trivial) (fun _=>⟨rfl,rfl,rfl,by simp [hE]⟩) (fun i hk=>?_)
      obtain⟨hk,hno⟩:=hk
      by_cases hlt:i<s.ticks.length
      ·have eS:=ySensors c s i hlt hb hA.sgo
       by_cases a6:W.sensorsMay c s i=true
       ·rw [a6] at eS
        conv=>whnf
        repeat' ((first|refine Br.pt (by omega) ?_|refine Br.of rfl ?_|refine CallS.q (eS) rfl ?_|refine Ob.mk (by unfold W.I64 at *;omega) ?_);conv=>whnf)
        exact⟨i+1,⟨hlt,W.all_step hno a6⟩,by omega,(by trivial),(by trivial),(by trivial)⟩
       ·rw [show W.sensorsMay c s i=false by simpa using a6] at eS
        rw [if_pos (by rw [W.allB_no hlt (show W.sensorsMay c s i=false by simpa using a6)];rfl)]
        conv=>whnf
        repeat' ((first|refine Br.pt (by omega) ?_|refine Br.ot rfl ?_|refine CallS.q (eS) rfl ?_|refine FinAt.val rfl ?_);conv=>whnf)
        rfl
      ·obtain rfl:i=s.ticks.length:=by omega
       rw [if_neg (by rw [W.allB_yes hno];decide)]
       by_cases a7:W.readsMay c t s=true
       ·rw [if_neg (by rw [a7];decide)]
        rw [a7] at eRd
        by_cases a8:W.junkMay s=true
        ·rw [if_neg (by rw [a8];decide)]
         rw [a8] at eJ
         conv=>whnf
         repeat' ((first|refine Br.pf (by omega) ?_|refine Br.of rfl ?_|refine CallS.q (eRd) rfl ?_|refine CallS.q (eJ) rfl ?_|refine FinAt.val rfl ?_);conv=>whnf)
         rfl
        ·rw [if_pos (by simpa using a8)]
         rw [show W.junkMay s=false by simpa using a8] at eJ
         conv=>whnf
         repeat' ((first|refine Br.pf (by omega) ?_|refine Br.ot rfl ?_|refine Br.of rfl ?_|refine CallS.q (eRd) rfl ?_|refine CallS.q (eJ) rfl ?_|refine FinAt.val rfl ?_);conv=>whnf)
         rfl
       ·rw [if_pos (by simpa using a7)]
        rw [show W.readsMay c t s=false by simpa using a7] at eRd
        conv=>whnf
        repeat' ((first|refine Br.pf (by omega) ?_|refine Br.ot rfl ?_|refine CallS.q (eRd) rfl ?_|refine FinAt.val rfl ?_);conv=>whnf)
        rfl
     ·rw [if_pos a5]
      conv=>whnf
      repeat' ((first|refine Br.nt (by assumption) ?_|refine Br.nf (by omega) ?_|refine Br.of rfl ?_|refine CallS.q (eFit) rfl ?_|refine CallS.q (eRt) rfl ?_|refine CallS.q (eOn) rfl ?_|refine CallS.q (eSp) rfl ?_|refine CallS.q (eNu) rfl ?_|refine FinAt.val rfl ?_);conv=>whnf)
      rfl
    ·rw [if_pos (by simpa using a4)]
     rw [show W.speedsMay c s=false by simpa using a4] at eSp
     conv=>whnf
     repeat' ((first|refine Br.nf (by omega) ?_|refine Br.ot rfl ?_|refine Br.of rfl ?_|refine CallS.q (eFit) rfl ?_|refine CallS.q (eRt) rfl ?_|refine CallS.q (eOn) rfl ?_|refine CallS.q (eSp) rfl ?_|refine FinAt.val rfl ?_);conv=>whnf)
     rfl
   ·rw [if_pos (by simpa using a3)]
    rw [show W.onMay t s=false by simpa using a3] at eOn
    conv=>whnf
    repeat' ((first|refine Br.nf (by omega) ?_|refine Br.ot rfl ?_|refine Br.of rfl ?_|refine CallS.q (eFit) rfl ?_|refine CallS.q (eRt) rfl ?_|refine CallS.q (eOn) rfl ?_|refine FinAt.val rfl ?_);conv=>whnf)
    rfl
  ·rw [if_pos (by simpa using a2)]
   rw [show W.routeMay t s.route=false by simpa using a2] at eRt
   conv=>whnf
   repeat' ((first|refine Br.nf (by omega) ?_|refine Br.ot rfl ?_|refine CallS.q (eFit) rfl ?_|refine CallS.q (eRt) rfl ?_|refine FinAt.val rfl ?_);conv=>whnf)
   rfl
 ·rw [if_pos a1]
  conv=>whnf
  repeat' ((first|refine Br.nt (by assumption) ?_|refine CallS.q (eFit) rfl ?_|refine FinAt.val rfl ?_);conv=>whnf)
  rfl
end
abbrev u1(x:Int):List AV:=[.int .u8 x]
theorem u1_len(x:Int):(u1 x).length=1:=rfl
theorem okU{k:Nat}{l:List Int}{r:List Value}:okO k [.blk (ar u1 l r)]=true:=by simp [okO,okL1_ar k (e:=u1) (fun x=>rfl)]
theorem u8_wrap{x:Int}(h0:0≤x)(h1:x<256):IntKind.u8.wrap x=x:=by
 simp only [IntKind.wrap,IntKind.bits,IntKind.signed]
 simp
 omega
def ints(l:List Nat):List Int:=l.map fun x:Nat=>(x:Int)
theorem ints_app(a b:List Nat):ints (a++b)=ints a++ints b:=by simp [ints]
theorem set_drop{l:List Int}{i:Nat}(x:Int)(h:i<l.length):(l.set i x).drop i=x::l.drop (i+1):=by
 rw [List.drop_eq_getElem_cons (by simpa using h),List.getElem_set_self,List.drop_set_of_lt (by omega)]
theorem bytes_fin{l:List Int}{e:List Nat}{n:Nat}(h:ints e=l)(hl:l.length=n)(hn:n≤1000):RvL [.blk (ar u1 l [])] [0] [.sl 0 0 1 n n] [bytesV e]:=by
 subst h
 have hel:e.length=n:=by rw [← hl];simp [ints]
 refine RvL.cons ?_ RvL.nil
 unfold bytesV
 rw [hel]
 refine Rv.slM (cs:=ar u1 (ints e) []) (by simp) rfl ⟨Nat.le_refl _,by simp [maxLen];omega⟩ (fun j hj=>?_)
 obtain⟨q1,q2⟩:=ar_el (e:=u1) (sz:=1) (fun _=>rfl) (r:=[]) (0:Int) (l:=ints e) (show j<(ints e).length by omega)
 refine⟨by omega,?_⟩
 rw [Nat.zero_add,q2]
 have:(ints e).getD j 0=((e.getD j 0:Nat):Int):=by
  have hj':j<e.length:=by omega
  simp [ints,List.getD,hj']
 rw [this]
 exact RvL.pu rfl
theorem putP(v:Int)(n:Nat)(hn:1≤n∧n≤8)(hv:0≤v∧v≤9223372036854775807)(m:Int)(hm:m=n):Ret Tryz.prog 52 [I v,I m] (·=bytesV (encN n v.toNat)):=by
 subst hm
 refine enterO tabOk (N:=46) (gs:=[]) (args:=[_,_]) Tryz.func52 rfl rfl rfl (nLe rfl) (fun E hE=>?_)
 conv=>whnf
 repeat' ((first|refine OpAt.mkSl (et:=5) (m:=n) (kd:=.u8) (e:=u1) (bts:=1) (fun _=>rfl) rfl (by kernel_rfl) (by kernel_rfl) (by omega) (by omega) rfl rfl ?_|refine Br.pf (by omega) ?_|refine Ob.mk (by unfold W.I64 at *;omega) ?_);conv=>whnf)
 refine LoopAt.rule tabOk [(4,_),(5,_)] (fun (i:Nat×Int×List Int)=>[(0,.int .i64 i.2.1),(8,.int .i64 ((i.1:Int)-1))]) (fun (i:Nat×Int×List Int)=>[.blk (ar u1 i.2.2 [])]) (fun (i:Nat×Int×List Int)=>i.1≤n∧(0≤i.2.1∧i.2.1≤9223372036854775807)∧i.2.2.length=n∧ints (encN n v.toNat)=ints (encN i.1 i.2.1.toNat)++i.2.2.drop i.1) (fun (i:Nat×Int×List Int)=>i.1) (n,v,List.replicate n 0) (by (repeat refine And.intro (by first|rfl|exact congrArg (fun z=>some (AV.int .i64 z)) (by first|omega|(dsimp only;omega))) ?_);exact trivial) ⟨Nat.le_refl _,hv,by simp,by simp [List.drop_of_length_le]⟩ (by (repeat refine And.intro (by first|rfl|exact congrArg (fun z=>some (AV.int .i64 z)) (by first|omega|(dsimp only;omega))) ?_);exact trivial) (by (repeat refine And.intro (by first|rfl|exact congrArg (fun z=>some (AV.int .i64 z)) (by first|omega|(dsimp only;omega))) ?_);exact trivial) (fun _=>⟨rfl,rfl,okU,by simp [hE]⟩) (fun i hk=>?_)
 obtain⟨j,q,l⟩:=i
 obtain⟨hj,hq,hl,he⟩:=hk
 dsimp only at hj hq hl he ⊢
 by_cases h0:j=0
 ·subst h0
  conv=>whnf
  repeat' ((refine Br.pf (by omega) ?_);conv=>whnf)
  rw [List.drop_zero] at he
  exact FinAt.gen [0] (bytes_fin (e:=encN n v.toNat) (by simpa [ints,encN] using he) hl (by omega)) (by repeat (first|exact Als.nil _|refine Als.cons rfl rfl ?_)) rfl
 ·obtain⟨i,rfl⟩:∃ i,j=i+1:=⟨j-1,by omega⟩
  have hw:IntKind.u8.wrap (q%256)=q%256:=u8_wrap (by omega) (by omega)
  have hix:(((i+1:Nat):Int)-1).toNat=i:=by omega
  conv=>whnf
  repeat' ((first|refine Ix.tn (by omega) ?_|refine Pc.sym ?_|refine StAt.el (e:=u1) (n:=1) u1_len _ rfl rfl _ (Nat.mul_one _).symm (by first|omega|(simp only [List.length_set];omega)) ?_|refine Br.pt (by omega) ?_|refine Ob.mk (by omega) ?_|refine Ob.mk (by unfold W.I64 at *;omega) ?_);conv=>whnf)
  rw [hw,hix]
  refine⟨(i,q/256,l.set (0+i*1) (q%256)),⟨by dsimp only;omega,by dsimp only;omega,by simpa using hl,?_⟩,by dsimp only;omega,(by (repeat refine And.intro (by first|rfl|exact congrArg (fun z=>some (AV.int .i64 z)) (by first|omega|(dsimp only;omega))) ?_);exact trivial),(by trivial),(by trivial)⟩
  dsimp only
  rw [he,encN,ints_app,List.append_assoc,show 0+i*1=i by omega,set_drop _ (by omega)]
  have e1:(q/256).toNat=q.toNat/256:=by omega
  have e2:((q.toNat%256:Nat):Int)=q%256:=by omega
  rw [e1]
  simp [ints,e2]
theorem putM(v:Int)(hv:-2147483648≤v∧v<0):Ret Tryz.prog 52 [I v,I 4] (·=bytesV (encN 4 (u32 v))):=by
 refine enterO tabOk (N:=46) (gs:=[]) (args:=[_,_]) Tryz.func52 rfl rfl rfl (nLe rfl) (fun E hE=>?_)
 conv=>whnf
 repeat' ((first|refine OpAt.mkSl (et:=5) (m:=4) (kd:=.u8) (e:=u1) (bts:=1) (fun _=>rfl) rfl (by kernel_rfl) (by kernel_rfl) (by omega) (by omega) rfl rfl ?_|refine Br.pt (by omega) ?_|refine Ob.mk (by unfold W.I64 at *;omega) ?_);conv=>whnf)
 refine LoopAt.rule tabOk [(4,_),(5,_)] (fun (i:Nat×Int×List Int)=>[(6,.int .i64 i.2.1),(7,.int .i64 ((i.1:Int)-1))]) (fun (i:Nat×Int×List Int)=>[.blk (ar u1 i.2.2 [])]) (fun (i:Nat×Int×List Int)=>i.1≤4∧(0≤i.2.1∧i.2.1<256 ^ i.1)∧i.2.2.length=4∧ints (encN 4 (u32 v))=ints (encN i.1 (256 ^ i.1-1-i.2.1).toNat)++i.2.2.drop i.1) (fun (i:Nat×Int×List Int)=>i.1) (4,-1-v,List.replicate 4 0) (by (repeat refine And.intro (by first|rfl|exact congrArg (fun z=>some (AV.int .i64 z)) (by first|omega|(dsimp only;omega))) ?_);exact trivial) ⟨Nat.le_refl _,⟨by dsimp only;omega,by dsimp only;omega⟩,rfl,by dsimp only;rw [show (256 ^ 4-1-(-1-v):Int).toNat=u32 v by unfold u32;omega];simp⟩ (by (repeat refine And.intro (by first|rfl|exact congrArg (fun z=>some (AV.int .i64 z)) (by first|omega|(dsimp only;omega))) ?_);exact trivial) (by (repeat refine And.intro (by first|rfl|exact congrArg (fun z=>some (AV.int .i64 z)) (by first|omega|(dsimp only;omega))) ?_);exact trivial) (fun _=>⟨rfl,rfl,okU,by simp [hE]⟩) (fun i hk=>?_)
 obtain⟨j,q,l⟩:=i
 obtain⟨hj,hq,hl,he⟩:=hk
 dsimp only at hj hq hl he ⊢
 by_cases h0:j=0
 ·subst h0
  conv=>whnf
  repeat' ((refine Br.pf (by omega) ?_);conv=>whnf)
  rw [List.drop_zero] at he
  exact FinAt.gen [0] (bytes_fin (e:=encN 4 (u32 v)) (by simpa [ints,encN] using he) hl (by omega)) (by repeat (first|exact Als.nil _|refine Als.cons rfl rfl ?_)) rfl
 ·obtain⟨i,rfl⟩:∃ i,j=i+1:=⟨j-1,by omega⟩
  have hp:(256:Int) ^ (i+1)=256 ^ i*256:=Int.pow_succ _ _
  have hp0:0<(256:Int) ^ i:=Int.pow_pos (by omega)
  have hple:(256:Int) ^ (i+1)≤4294967296:=by
   have:i≤3:=by omega
   match i,this with
   |0,_|1,_|2,_|3,_=>decide
  obtain⟨P,hP⟩:∃ P,P=(256:Int) ^ i:=⟨_,rfl⟩
  rw [← hP] at hp hp0
  have hw:IntKind.u8.wrap (255-q%256)=255-q%256:=u8_wrap (by omega) (by omega)
  have hix:(((i+1:Nat):Int)-1).toNat=i:=by omega
  conv=>whnf
  repeat' ((first|refine Ix.tn (by omega) ?_|refine Pc.sym ?_|refine StAt.el (e:=u1) (n:=1) u1_len _ rfl rfl _ (Nat.mul_one _).symm (by first|omega|(simp only [List.length_set];omega)) ?_|refine Br.pt (by omega) ?_|refine Ob.mk (by omega) ?_|refine Ob.mk (by unfold W.I64 at *;omega) ?_);conv=>whnf)
  rw [hw,hix]
  refine⟨(i,q/256,l.set (0+i*1) (255-q%256)),⟨by dsimp only;omega,⟨by dsimp only;omega,by dsimp only;rw [← hP];omega⟩,by simpa using hl,?_⟩,by dsimp only;omega,(by (repeat refine And.intro (by first|rfl|exact congrArg (fun z=>some (AV.int .i64 z)) (by first|omega|(dsimp only;omega))) ?_);exact trivial),(by trivial),(by trivial)⟩
  dsimp only
  rw [he,encN,ints_app,List.append_assoc,show 0+i*1=i by omega,set_drop _ (by omega)]
  have e1:(256 ^ (i+1)-1-q:Int).toNat/256=(256 ^ i-1-q/256:Int).toNat:=by rw [hp,← hP];omega
  have e2:(((256 ^ (i+1)-1-q:Int).toNat%256:Nat):Int)=255-q%256:=by rw [hp];omega
  rw [e1]
  simp [ints,e2]
def bc(l:List Nat):List (List AV):=l.map fun x:Nat=>[.int .u8 (x:Int)]
theorem bc_len(l:List Nat):(bc l).length=l.length:=by simp [bc]
theorem bc_app(a b:List Nat):bc (a++b)=bc a++bc b:=by simp [bc]
theorem apU8:Ap Tryz.prog 85 5 1:=⟨.int .u8 0,1,by kernel_rfl,by kernel_rfl,rfl,by decide,by decide⟩
theorem bc_range(e:List Nat):(List.range e.length).map (fun i=>[AV.int .u8 ((e.getD i 0:Nat):Int)])=bc e:=by
 unfold bc
 apply List.ext_getElem?
 intro i
 rw [List.getElem?_map,List.getElem?_map]
 by_cases h:i<e.length
 ·simp [h,List.getD]
 ·rw [List.getElem?_eq_none (by simpa using h),List.getElem?_eq_none (by omega)];rfl
theorem XsB{own:Ow}(e:List Nat)(h:0<e.length):Xs own [] (bytesV e) e.length 1 (bc e):=by
 have:=Xs.lst (own:=own) (sz:=1) (f:=fun i=>[AV.int .u8 ((e.getD i 0:Nat):Int)]) h (fun i _=>rfl)
 rw [bc_range] at this
 exact this
theorem gro_bytes{own:Ow}{i m:Nat}{I:List Nat}{ty:Nat}{e:List Nat}(hi:i∈I)(hb:nth own i=some (.buf ty 1 (bc e)))(hm:e.length=m):Rv own I (.gro i m) (bytesV e):=by
 subst hm
 exact Rv.gro hi hb (bc_len e) (fun j hj=>PLe.of (by simp [bc,List.getD,hj]))
def packS(t:W.Trk)(k:Nat):List Nat:=headT++(encN 2 t.segs.length++(t.segs.take k).flatMap encS)
def packG(t:W.Trk)(k:Nat):List Nat:=packS t t.segs.length++(encN 2 t.grps.length++(t.grps.take k).flatMap encG)
theorem take_flat{α:Type}(f:α→List Nat){l:List α}{k:Nat}(h:k<l.length)(d:α):(l.take (k+1)).flatMap f=(l.take k).flatMap f++f (l.getD k d):=by
 rw [List.take_succ_eq_append_getElem h,List.flatMap_append]
 simp [List.getD,h]
theorem packS_succ{t:W.Trk}{k:Nat}(h:k<t.segs.length):packS t (k+1)=packS t k++encS (t.segs.getD k default):=by
 unfold packS
 rw [take_flat encS h default]
 simp only [List.append_assoc]
theorem packG_succ{t:W.Trk}{k:Nat}(h:k<t.grps.length):packG t (k+1)=packG t k++encG (t.grps.getD k default):=by
 unfold packG
 rw [take_flat encG h default]
 simp only [List.append_assoc]
theorem packG_all(t:W.Trk):packG t t.grps.length=headT++encT t:=by
 unfold packG packS encT
 rw [List.take_length,List.take_length]
 simp only [List.append_assoc]
def segA(s:W.Seg)(k:Nat):List Nat:=encN 8 s.length.toNat++(encN 1 s.pieces.length++(s.pieces.take k).flatMap encPiece)
def segB(s:W.Seg)(k:Nat):List Nat:=segA s s.pieces.length++(encN 1 s.next.length++(s.next.take k).flatMap fun x=>encN 1 x.toNat)
theorem segA_succ{s:W.Seg}{k:Nat}(h:k<s.pieces.length):segA s (k+1)=segA s k++encPiece (s.pieces.getD k default):=by
 unfold segA
 rw [take_flat encPiece h default]
 simp only [List.append_assoc]
theorem segB_succ{s:W.Seg}{k:Nat}(h:k<s.next.length):segB s (k+1)=segB s k++encN 1 (s.next.getD k 0).toNat:=by
 unfold segB
 rw [take_flat (fun x=>encN 1 x.toNat) h 0]
 simp only [List.append_assoc]
theorem segB_all(s:W.Seg):segB s s.next.length=encS s:=by
 unfold segB segA encS
 rw [List.take_length,List.take_length]
 simp only [List.append_assoc]
theorem segA_len(s:W.Seg)(k:Nat):(segA s k).length≤9+12*k:=by
 unfold segA
 simp only [List.length_append,encN_len]
 have h1:=flatMap_le (f:=encPiece) (n:=12) (l:=s.pieces.take k) fun x _=>by unfold encPiece;simp [encN_len]
 have h2:=List.length_take_le k s.pieces
 have:=Nat.mul_le_mul_right 12 h2
 omega
theorem segB_len{s:W.Seg}(hs:SgB s)(k:Nat)(hk:k≤s.next.length):(segB s k).length≤1000:=by
 unfold segB
 simp only [List.length_append,encN_len]
 have h0:=segA_len s s.pieces.length
 have h1:=flatMap_le (f:=fun x:Int=>encN 1 x.toNat) (n:=1) (l:=s.next.take k) fun x _=>by simp [encN_len]
 have h2:=List.length_take_le k s.next
 have:=hs.pn
 have:=hs.nn
 omega
theorem packS_len{t:W.Trk}(h:ImgOk t)(k:Nat)(hk:k≤t.segs.length):(packS t k).length≤200006:=by
 unfold packS headT
 simp only [List.length_append,encN_len,List.length_cons,List.length_nil]
 have h1:=flatMap_le (f:=encS) (n:=1000) (l:=t.segs.take k) fun x hx=>encS_len (h.sg x (List.mem_of_mem_take hx))
 have h2:=List.length_take_le k t.segs
 have:=h.sn
 omega
theorem packG_len{t:W.Trk}(h:ImgOk t)(k:Nat)(hk:k≤t.grps.length):(packG t k).length≤300000:=by
 unfold packG
 simp only [List.length_append,encN_len]
 have h0:=packS_len h t.segs.length (Nat.le_refl _)
 have h1:=flatMap_le (f:=encG) (n:=19) (l:=t.grps.take k) fun x _=>by unfold encG;simp [encN_len]
 have h2:=List.length_take_le k t.grps
 have:=h.gn
 omega
theorem enc1{x:Int}(h:0≤x∧x<256):encN 1 x.toNat=[x.toNat]:=by
 show [x.toNat%256]=[x.toNat]
 rw [Nat.mod_eq_of_lt (by omega)]
theorem putG(g:Int)(hg:-2147483648≤g∧g<2147483648):Ret Tryz.prog 52 [I g,I 4] (·=bytesV (encN 4 (u32 g))):=by
 by_cases h:g<0
 ·exact putM g ⟨hg.1,h⟩
 ·have:=putP g 4 (by omega) (by omega) 4 rfl
  have e:g.toNat=u32 g:=by unfold u32;omega
  rw [e] at this
  exact this
theorem packC(t:W.Trk)(h:ImgOk t):Ret Tryz.prog 31 [trkV t] (·=bytesV (packT t)):=by
 have hsn:=h.sn
 have hgn:=h.gn
 have e0:packS t 0=headT++encN 2 t.segs.length:=by unfold packS;simp
 refine enterO tabOk (N:=145) (gs:=[]) (args:=[_]) Tryz.func31 rfl rfl rfl (nLe rfl) (fun E hE=>?_)
 have hp2:=putP t.segs.length 2 (by omega) (by omega) 2 rfl
 have hq2:=putP t.grps.length 2 (by omega) (by omega) 2 rfl
 rw [Int.toNat_natCast] at hp2 hq2
 conv=>whnf
 repeat' ((first|refine BsN.sem (OpAt.bsG tabOk rfl rfl rfl rfl rfl ?_)|refine⟨rfl,rfl,?_⟩|refine OpAt.appG apU8 rfl [] rfl rfl rfl rfl (by simp) (Als.nil _) (by simp) (XsB _ (by simp [encN_len])) (by simp [encN_len]) (by simp [encN_len]) ?_|refine CallS.q (hp2) rfl ?_);conv=>whnf)
 refine LoopAt.rule tabOk [(1,_),(2,_)] (fun (i:Nat×Nat×List (List AV))=>[(4,.int .i64 i.1),(3,.gro 1 i.2.1)]) (fun (i:Nat×Nat×List (List AV))=>[.blk [sgsV t.segs,gpsV t.grps],.buf 5 1 i.2.2]) (fun (i:Nat×Nat×List (List AV))=>i.1≤t.segs.length∧i.2.1=(packS t i.1).length∧i.2.2=bc (packS t i.1)) (fun (i:Nat×Nat×List (List AV))=>t.segs.length-i.1) (0,4+(encN 2 t.segs.length).length,bc headT++bc (encN 2 t.segs.length)) (by trivial) ⟨by simp,by dsimp only;rw [e0];simp [headT];omega,by dsimp only;rw [e0,bc_app]⟩ (by trivial) (by trivial) (fun _=>⟨rfl,rfl,rfl,by simp [hE]⟩) (fun i hk=>?_)
 obtain⟨k,n,cs⟩:=i
 obtain⟨hk,hn,hcs⟩:=hk
 dsimp only at hk hn hcs ⊢
 have hcl:cs.length=n:=by rw [hcs,bc_len,hn]
 have hnb:n≤200006:=by rw [hn];exact packS_len h k hk
 by_cases hlt:k<t.segs.length
 ·have hs:=h.sg (t.segs.getD k default) (by simp [List.getD,hlt])
  have hlen:=hs.len
  have hpn:=hs.pn
  have hnn:=hs.nn
  have hsucc:=packS_succ hlt
  obtain⟨s,hse⟩:∃ s,s=t.segs.getD k default:=⟨_,rfl⟩
  rw [← hse] at hs hlen hpn hnn hsucc
  have hp8:=putP s.length 8 (by omega) (by omega) 8 rfl
  have hw1:IntKind.u8.wrap (s.pieces.length:Int)=(s.pieces.length:Int):=u8_wrap (by omega) (by omega)
  have hw2:IntKind.u8.wrap (s.next.length:Int)=(s.next.length:Int):=u8_wrap (by omega) (by omega)
  have hsl:(s.pieces.length:Int)=((s.pieces.length:Nat):Int):=rfl
  rw [hse] at hp8
  conv=>whnf
  repeat' ((first|refine OpAt.appG apU8 rfl [] rfl rfl rfl (by simp [bc_len,encN_len,hcl]) (by simp) (Als.nil _) (by simp) (XsB _ (by simp [encN_len])) (by simp [encN_len]) (by (try simp only [encN_len,List.length_cons,List.length_nil]);omega) ?_|refine OpAt.appG apU8 rfl [] rfl rfl rfl (by simp [bc_len,encN_len,hcl]) (by simp) (Als.nil _) (by simp) (Xs.one rfl rfl rfl (RvL.pu rfl) rfl) (by decide) (by (try simp only [encN_len,List.length_cons,List.length_nil]);omega) ?_|refine Br.pt (by omega) ?_|refine CallS.q (hp8) rfl ?_|refine Ob.mk (by omega) ?_|refine Ix.nat _ ?_|refine BsN.mark ?_);conv=>whnf)
  rw [← hse,hw1]
  refine LoopAt.rule tabOk [(1,_),(2,_),(4,_),(5,_)] (fun (i:Nat×Nat×List (List AV))=>[(6,.int .i64 i.1),(3,.gro 1 i.2.1)]) (fun (i:Nat×Nat×List (List AV))=>[.blk [sgsV t.segs,gpsV t.grps],.buf 5 1 i.2.2,.blk (sgC s)]) (fun (i:Nat×Nat×List (List AV))=>i.1≤s.pieces.length∧i.2.1=n+(segA s i.1).length∧i.2.2=cs++bc (segA s i.1)) (fun (i:Nat×Nat×List (List AV))=>s.pieces.length-i.1) (0,n+(encN 8 s.length.toNat).length+1,cs++bc (encN 8 s.length.toNat)++bc [s.pieces.length]) (by trivial) ⟨by simp,by simp [segA,encN_len],by dsimp only;rw [segA,List.take_zero,List.flatMap_nil,List.append_nil,bc_app,List.append_assoc];congr 2;show bc [s.pieces.length]=bc [s.pieces.length%256];rw [Nat.mod_eq_of_lt (by omega)]⟩ (by trivial) (by trivial) (fun _=>⟨rfl,rfl,rfl,by simp [hE]⟩) (fun i hk=>?_)
  obtain⟨a,m,ds⟩:=i
  obtain⟨ha,hm,hds⟩:=hk
  dsimp only at ha hm hds ⊢
  have hcl2:ds.length=m:=by rw [hds,List.length_append,bc_len,hcl,hm]
  have hal:=segA_len s a
  by_cases hlt2:a<s.pieces.length
  ·have hp:=hs.pc (s.pieces.getD a default) (by simp [List.getD,hlt2])
   obtain⟨hp1,hp2,hp3,hp4⟩:=hp
   have q8:=putP (s.pieces.getD a default).from_ 8 (by omega) (by omega) 8 rfl
   have q4:=putG (s.pieces.getD a default).grade ⟨hp3,hp4⟩
   conv=>whnf
   repeat' ((first|refine OpAt.appG apU8 rfl [] rfl rfl rfl (by simp [bc_len,encN_len,hcl2]) (by simp) (Als.nil _) (by simp) (XsB _ (by simp [encN_len])) (by simp [encN_len]) (by (try simp only [encN_len,List.length_cons,List.length_nil]);omega) ?_|refine Br.pt (by omega) ?_|refine CallS.q (q8) rfl ?_|refine CallS.q (q4) rfl ?_|refine Ob.mk (by omega) ?_|refine Ob.mk (by unfold W.I64 at *;omega) ?_|refine Ix.nat _ ?_);conv=>whnf)
   refine⟨(a+1,_,_),⟨by dsimp only;omega,?_,?_⟩,by dsimp only;omega,(by trivial),(by trivial),(by trivial)⟩
   ·dsimp only;rw [segA_succ hlt2,hm];simp [encPiece,encN_len];omega
   ·dsimp only;rw [segA_succ hlt2,hds,bc_app];simp [encPiece,bc_app]
  ·obtain rfl:a=s.pieces.length:=by omega
   conv=>whnf
   repeat' ((first|refine OpAt.appG apU8 rfl [] rfl rfl rfl (by simp [bc_len,encN_len,hcl2]) (by simp) (Als.nil _) (by simp) (Xs.one rfl rfl rfl (RvL.pu rfl) rfl) (by decide) (by (try simp only [encN_len,List.length_cons,List.length_nil]);omega) ?_|refine Br.pf (by omega) ?_|refine BsN.mark ?_);conv=>whnf)
   rw [hw2]
   refine LoopAt.rule tabOk [(1,_),(2,_),(4,_),(5,_)] (fun (i:Nat×Nat×List (List AV))=>[(7,.int .i64 i.1),(3,.gro 1 i.2.1)]) (fun (i:Nat×Nat×List (List AV))=>[.blk [sgsV t.segs,gpsV t.grps],.buf 5 1 i.2.2,.blk (sgC s)]) (fun (i:Nat×Nat×List (List AV))=>i.1≤s.next.length∧i.2.1=n+(segB s i.1).length∧i.2.2=cs++bc (segB s i.1)) (fun (i:Nat×Nat×List (List AV))=>s.next.length-i.1) (0,m+1,ds++bc [s.next.length]) (by trivial) ⟨by simp,by simp [segB,encN_len,hm];omega,by dsimp only;rw [segB,List.take_zero,List.flatMap_nil,List.append_nil,bc_app,hds,List.append_assoc];congr 2;show bc [s.next.length]=bc [s.next.length%256];rw [Nat.mod_eq_of_lt (by omega)]⟩ (by trivial) (by trivial) (fun _=>⟨rfl,rfl,rfl,by simp [hE]⟩) (fun i hk=>?_)
   clear hm hds hcl2 hal
   obtain⟨b,m,ds⟩:=i
   obtain⟨hb,hm,hds⟩:=hk
   dsimp only at hb hm hds ⊢
   have hcl2:ds.length=m:=by rw [hds,List.length_append,bc_len,hcl,hm]
   have hbl:=segB_len hs b hb
   by_cases hlt3:b<s.next.length
   ·have hx:=hs.nx (s.next.getD b 0) (by simp [List.getD,hlt3])
    have hw3:IntKind.u8.wrap (s.next.getD b 0)=(((s.next.getD b 0).toNat:Nat):Int):=by rw [u8_wrap hx.1 hx.2];omega
    conv=>whnf
    repeat' ((first|refine OpAt.appG apU8 rfl [] rfl rfl rfl (by simp [bc_len,encN_len,hcl2]) (by simp) (Als.nil _) (by simp) (Xs.one rfl rfl rfl (RvL.pu rfl) rfl) (by decide) (by (try simp only [encN_len,List.length_cons,List.length_nil]);omega) ?_|refine Br.pt (by omega) ?_|refine Ob.mk (by omega) ?_|refine Ob.mk (by unfold W.I64 at *;omega) ?_|refine Ix.nat _ ?_|refine BsN.mark ?_);conv=>whnf)
    rw [hw3]
    refine⟨(b+1,m+1,ds++bc [(s.next.getD b 0).toNat]),⟨by dsimp only;omega,?_,?_⟩,by dsimp only;omega,(by trivial),(by trivial),(by trivial)⟩
    ·dsimp only;rw [segB_succ hlt3,hm];simp [encN_len];omega
    ·dsimp only;rw [segB_succ hlt3,hds,bc_app,enc1 hx];simp
   ·obtain rfl:b=s.next.length:=by omega
    conv=>whnf
    repeat' ((first|refine Br.pf (by omega) ?_|refine Ob.mk (by unfold W.I64 at *;omega) ?_);conv=>whnf)
    refine⟨(k+1,m,ds),⟨by dsimp only;omega,?_,?_⟩,by dsimp only;omega,(by trivial),(by trivial),(by trivial)⟩
    ·dsimp only;rw [hsucc,hm,hn,List.length_append,segB_all]
    ·dsimp only;rw [hsucc,hds,hcs,bc_app,segB_all]
 ·obtain rfl:k=t.segs.length:=by omega
  conv=>whnf
  repeat' ((first|refine OpAt.appG apU8 rfl [] rfl rfl rfl (by simp [bc_len,encN_len,hcl]) (by simp) (Als.nil _) (by simp) (XsB _ (by simp [encN_len])) (by simp [encN_len]) (by (try simp only [encN_len,List.length_cons,List.length_nil]);omega) ?_|refine Br.pf (by omega) ?_|refine CallS.q (hq2) rfl ?_);conv=>whnf)
  refine LoopAt.rule tabOk [(1,_),(2,_)] (fun (i:Nat×Nat×List (List AV))=>[(8,.int .i64 i.1),(3,.gro 1 i.2.1)]) (fun (i:Nat×Nat×List (List AV))=>[.blk [sgsV t.segs,gpsV t.grps],.buf 5 1 i.2.2]) (fun (i:Nat×Nat×List (List AV))=>i.1≤t.grps.length∧i.2.1=(packG t i.1).length∧i.2.2=bc (packG t i.1)) (fun (i:Nat×Nat×List (List AV))=>t.grps.length-i.1) (0,n+(encN 2 t.grps.length).length,cs++bc (encN 2 t.grps.length)) (by trivial) ⟨by simp,by dsimp only;rw [packG,hn];simp,by dsimp only;rw [packG,hcs];simp [bc_app]⟩ (by trivial) (by trivial) (fun _=>⟨rfl,rfl,rfl,by simp [hE]⟩) (fun i hk=>?_)
  clear hn hcs hcl hnb
  obtain⟨k,n,cs⟩:=i
  obtain⟨hk,hn,hcs⟩:=hk
  dsimp only at hk hn hcs ⊢
  have hcl:cs.length=n:=by rw [hcs,bc_len,hn]
  have hnb:n≤300000:=by rw [hn];exact packG_len h k hk
  by_cases hlt:k<t.grps.length
  ·have hg:=h.gp (t.grps.getD k default) (by simp [List.getD,hlt])
   have hsucc:=packG_succ hlt
   obtain⟨g1,g2,g3,g4,g5⟩:=hg
   have q1:=putP (t.grps.getD k default).id 2 (by omega) (by omega) 2 rfl
   have q3:=putP (t.grps.getD k default).offset 8 (by omega) (by omega) 8 rfl
   have q4:=putP (t.grps.getD k default).acc 4 (by omega) (by omega) 4 rfl
   have q5:=putP (t.grps.getD k default).slack 4 (by omega) (by omega) 4 rfl
   have hw3:IntKind.u8.wrap (t.grps.getD k default).seg=(((t.grps.getD k default).seg.toNat:Nat):Int):=by rw [u8_wrap g2.1 g2.2];omega
   conv=>whnf
   repeat' ((first|refine OpAt.appG apU8 rfl [] rfl rfl rfl (by simp [bc_len,encN_len,hcl]) (by simp) (Als.nil _) (by simp) (XsB _ (by simp [encN_len])) (by simp [encN_len]) (by (try simp only [encN_len,List.length_cons,List.length_nil]);omega) ?_|refine OpAt.appG apU8 rfl [] rfl rfl rfl (by simp [bc_len,encN_len,hcl]) (by simp) (Als.nil _) (by simp) (Xs.one rfl rfl rfl (RvL.pu rfl) rfl) (by decide) (by (try simp only [encN_len,List.length_cons,List.length_nil]);omega) ?_|refine Br.pt (by omega) ?_|refine CallS.q (q1) rfl ?_|refine CallS.q (q3) rfl ?_|refine CallS.q (q4) rfl ?_|refine CallS.q (q5) rfl ?_|refine Ob.mk (by omega) ?_|refine Ob.mk (by unfold W.I64 at *;omega) ?_|refine Ix.nat _ ?_|refine BsN.mark ?_);conv=>whnf)
   rw [hw3]
   refine⟨(k+1,_,cs++bc (encN 2 (t.grps.getD k default).id.toNat)++bc [(t.grps.getD k default).seg.toNat]++bc (encN 8 (t.grps.getD k default).offset.toNat)++bc (encN 4 (t.grps.getD k default).acc.toNat)++bc (encN 4 (t.grps.getD k default).slack.toNat)),⟨by dsimp only;omega,?_,?_⟩,by dsimp only;omega,(by trivial),(by trivial),(by trivial)⟩
   ·dsimp only;rw [hsucc,hn];simp [encG,encN_len]
   ·dsimp only;rw [hsucc,hcs,bc_app];simp only [encG,bc_app,enc1 g2,List.append_assoc]
  ·obtain rfl:k=t.grps.length:=by omega
   rw [packG_all] at hn hcs
   have hsum:=r6Sum (headT++encT t) (headE_b t) (by rw [← hn];omega)
   have hlt16:=(Crc.sum (headT++encT t)).isLt
   conv=>whnf
   repeat' ((refine Br.pf (by omega) ?_);conv=>whnf)
   subst hcs
   refine CallS.call (CallN.flat [1] (RvL.cons (gro_bytes (by simp) rfl hn.symm) RvL.nil) (by repeat (first|exact Als.nil _|refine Als.cons rfl rfl ?_)) hsum (fun r hr=>by subst hr;rfl) (fun r hr=>?_))
   subst hr
   obtain⟨x,hx⟩:∃ x,x=(Crc.sum (headT++encT t)).toNat:=⟨_,rfl⟩
   have hpt:packT t=(headT++encT t)++[x/256,x%256]:=by rw [hx];rfl
   rw [← hx] at hlt16 ⊢
   have hw1:IntKind.u8.wrap ((x:Int)/256)=((x/256:Nat):Int):=by rw [u8_wrap (by omega) (by omega)];rfl
   have hw2:IntKind.u8.wrap ((x:Int)%256)=((x%256:Nat):Int):=by rw [u8_wrap (by omega) (by omega)];rfl
   conv=>whnf
   repeat' ((first|refine OpAt.appG (es:=[[AV.int .u8 (IntKind.u8.wrap ((x:Int)/256))],[AV.int .u8 (IntKind.u8.wrap ((x:Int)%256))]]) apU8 rfl [] rfl rfl rfl hcl (by simp) (Als.nil _) (by simp) (Xs.sl rfl rfl (fun y hy=>by simp only [List.mem_cons,List.not_mem_nil,or_false] at hy;rcases hy with rfl|rfl<;>rfl) rfl (RvL.pu rfl)) (by decide) (by omega) ?_|refine Ob.mk (by omega) ?_|refine Ob.mk (by unfold W.I64 at *;omega) ?_|refine BsN.mark ?_);conv=>whnf)
   rw [hw1,hw2]
   have hb:bc (headT++encT t)++[[AV.int .u8 ((x/256:Nat):Int)],[AV.int .u8 ((x%256:Nat):Int)]]=bc (packT t):=by rw [hpt,bc_app (headT++encT t)];rfl
   rw [hb]
   exact FinAt.gen [1] (RvL.cons (gro_bytes (by simp) rfl (by rw [hpt,List.length_append,← hn];rfl)) RvL.nil) (by repeat (first|exact Als.nil _|refine Als.cons rfl rfl ?_)) rfl
theorem r7Size(k:Int)(hk:W.I64 k):Ret Tryz.prog 67 [I k] (·=I (Fr.sz k)):=by
 unfold W.I64 at hk
 by_cases h1:k<1∨5<k
 ·rw [show Fr.sz k=0 by unfold Fr.sz;rw [if_neg (by omega),if_neg (by omega)]]
  refine enterO tabOk (N:=14) (gs:=[]) (args:=[_]) Tryz.func67 rfl rfl rfl (nLe rfl) (fun E hE=>?_)
  conv=>whnf
  repeat' (first|((first|refine Br.pt (by assumption) ?_|refine Br.pf (by assumption) ?_|refine Br.pt (by omega) ?_|refine Br.ot rfl ?_|refine FinAt.val rfl ?_);conv=>whnf)|((refine Br.d (fun h=>?_) (fun h=>?_))<;>conv=>whnf))
  all_goals first|rfl|omega
 ·obtain rfl|rfl|rfl|rfl|rfl:k=1∨k=2∨k=3∨k=4∨k=5:=by omega
  all_goals
   refine enterO tabOk (N:=14) (gs:=[]) (args:=[_]) Tryz.func67 rfl rfl rfl (nLe rfl) (fun E hE=>?_)
   conv=>whnf
   repeat' ((first|refine Br.pf (by omega) ?_|refine Ob.mk (by omega) ?_|refine Ob.mk (by simp only [Option.getD_some,Option.getD_none];omega) ?_|refine Ix.of 1 rfl ?_|refine Ix.nat _ ?_|refine Pc.lit ?_|refine FinAt.val rfl ?_);conv=>whnf)
   all_goals rfl
theorem be2(v:Int):Fr.be 2 v=[(v/256%256).toNat,(v%256).toNat]:=rfl
theorem be4(v:Int):Fr.be 4 v=[(v/256/256/256%256).toNat,(v/256/256%256).toNat,(v/256%256).toNat,(v%256).toNat]:=rfl
theorem kinds{kind:Int}{n:Nat}(h:Fr.sz kind=n)(hn:n≠0):1≤kind∧kind≤5:=by
 unfold Fr.sz at h
 split at h
 ·omega
 ·split at h<;>omega
theorem r7PutB(kind seq v:Int)(hk:W.I64 kind)(hs:W.I64 seq)(hv:W.I64 v)(h:Fr.sz kind=2)(ho:okB kind seq v=true):Ret Tryz.prog 34 [.agg [I kind,I seq,I v]] (·=.tup [bytesV (Fr.bytes kind seq v),I 0]):=by
 have eZ:=r7Size kind hk
 rw [h] at eZ
 have hkk:=kinds h (by omega)
 unfold W.I64 at hk hs hv
 have hb:(0≤seq∧seq≤255)∧0≤v∧v≤65535:=by
  unfold okB at ho
  rw [if_neg (by omega)] at ho
  simpa using ho
 have q1:IntKind.u8.wrap kind=((kind.toNat:Nat):Int):=by rw [u8_wrap (by omega) (by omega)];omega
 have q2:IntKind.u8.wrap seq=((seq.toNat:Nat):Int):=by rw [u8_wrap (by omega) (by omega)];omega
 have w0:IntKind.u8.wrap (v/256%256)=(((v/256%256).toNat:Nat):Int):=by rw [u8_wrap (by omega) (by omega)];omega
 have w1:IntKind.u8.wrap (v%256)=(((v%256).toNat:Nat):Int):=by rw [u8_wrap (by omega) (by omega)];omega
 refine enterO tabOk (N:=85) (gs:=[]) (args:=[_]) Tryz.func34 rfl rfl rfl (nLe rfl) (fun E hE=>?_)
 conv=>whnf
 repeat' ((first|refine BsN.sem (OpAt.bsG (len:=3) tabOk rfl rfl rfl rfl rfl ?_)|refine⟨rfl,rfl,?_⟩|refine OpAt.appG (es:=[[AV.int .u8 (IntKind.u8.wrap (v/256%256))],[AV.int .u8 (IntKind.u8.wrap (v%256))]]) apU8 rfl [] rfl rfl rfl rfl (by simp) (Als.nil _) (by simp) (Xs.sl rfl rfl (fun y hy=>by simp only [List.mem_cons,List.not_mem_nil,or_false] at hy;rcases hy with rfl|rfl<;>rfl) rfl (RvL.pu rfl)) (by decide) (by omega) ?_|refine Br.pf (by omega) ?_|refine CallS.q (eZ) rfl ?_|refine Ob.mk (by omega) ?_|refine Ob.mk (by unfold W.I64 at *;omega) ?_|refine BsN.mark ?_);conv=>whnf)
 rw [q1,q2,w0,w1]
 have eL:Fr.enc kind seq v=[kind.toNat,seq.toNat,2,(v/256%256).toNat,(v%256).toNat]:=by
  unfold Fr.enc;rw [h];rfl
 have eB:Fr.bytes kind seq v=Fr.enc kind seq v++[(Crc.sum (Fr.enc kind seq v)).toNat/256,(Crc.sum (Fr.enc kind seq v)).toNat%256]:=rfl
 rw [eB,eL]
 obtain⟨L,hL⟩:∃ L,L=[kind.toNat,seq.toNat,2,(v/256%256).toNat,(v%256).toNat]:=⟨_,rfl⟩
 have hLB:∀ x∈L,x<256:=by
  rw [hL];intro x hx
  simp only [List.mem_cons,List.not_mem_nil,or_false] at hx
  omega
 have hLn:L.length=5:=by rw [hL];rfl
 have hsum:=r6Sum L hLB (by omega)
 have eb:bc L=[[.int .u8 ((kind.toNat:Nat):Int)],[.int .u8 ((seq.toNat:Nat):Int)],[.int .u8 2],[.int .u8 (((v/256%256).toNat:Nat):Int)],[.int .u8 (((v%256).toNat:Nat):Int)]]:=by rw [hL];rfl
 rw [← hL]
 refine CallS.call (CallN.flat [1] (RvL.cons (gro_bytes (e:=L) (by simp) (by rw [eb];rfl) hLn) RvL.nil) (by repeat (first|exact Als.nil _|refine Als.cons rfl rfl ?_)) hsum (fun r hr=>by subst hr;rfl) (fun r hr=>?_))
 subst hr
 obtain⟨x,hx⟩:∃ x,x=(Crc.sum L).toNat:=⟨_,rfl⟩
 have hlt16:=(Crc.sum L).isLt
 rw [← hx] at hlt16 ⊢
 have hw1:IntKind.u8.wrap ((x:Int)/256)=((x/256:Nat):Int):=by rw [u8_wrap (by omega) (by omega)];rfl
 have hw2:IntKind.u8.wrap ((x:Int)%256)=((x%256:Nat):Int):=by rw [u8_wrap (by omega) (by omega)];rfl
 conv=>whnf
 repeat' ((first|refine OpAt.appG (es:=[[AV.int .u8 (IntKind.u8.wrap ((x:Int)/256))],[AV.int .u8 (IntKind.u8.wrap ((x:Int)%256))]]) apU8 rfl [] rfl rfl rfl rfl (by simp) (Als.nil _) (by simp) (Xs.sl rfl rfl (fun y hy=>by simp only [List.mem_cons,List.not_mem_nil,or_false] at hy;rcases hy with rfl|rfl<;>rfl) rfl (RvL.pu rfl)) (by decide) (by omega) ?_|refine Ob.mk (by omega) ?_|refine Ob.mk (by unfold W.I64 at *;omega) ?_|refine BsN.mark ?_);conv=>whnf)
 rw [hw1,hw2]
 exact FinAt.gen (ars:=[bytesV (L++[x/256,x%256]),I 0]) [1] (RvL.cons (gro_bytes (e:=L++[x/256,x%256]) (by simp) (by rw [bc_app,eb];rfl) (by rw [List.length_append,hLn];rfl)) (RvL.pu rfl)) (by repeat (first|exact Als.nil _|refine Als.cons rfl rfl ?_)) rfl
theorem r7PutP(kind seq v:Int)(hk:W.I64 kind)(hs:W.I64 seq)(hv:W.I64 v)(h:Fr.sz kind=4)(ho:okB kind seq v=true)(hp:0≤v):Ret Tryz.prog 34 [.agg [I kind,I seq,I v]] (·=.tup [bytesV (Fr.bytes kind seq v),I 0]):=by
 have eZ:=r7Size kind hk
 rw [h] at eZ
 have hkk:=kinds h (by omega)
 unfold W.I64 at hk hs hv
 have hb:(0≤seq∧seq≤255)∧-2147483648≤v∧v≤2147483647:=by
  unfold okB at ho
  rw [if_pos (by omega)] at ho
  simpa using ho
 have q1:IntKind.u8.wrap kind=((kind.toNat:Nat):Int):=by rw [u8_wrap (by omega) (by omega)];omega
 have q2:IntKind.u8.wrap seq=((seq.toNat:Nat):Int):=by rw [u8_wrap (by omega) (by omega)];omega
 have w0:IntKind.u8.wrap (v/16777216)=(((v/256/256/256%256).toNat:Nat):Int):=by rw [u8_wrap (by omega) (by omega)];omega
 have w1:IntKind.u8.wrap (v/65536%256)=(((v/256/256%256).toNat:Nat):Int):=by rw [u8_wrap (by omega) (by omega)];omega
 have w2:IntKind.u8.wrap (v/256%256)=(((v/256%256).toNat:Nat):Int):=by rw [u8_wrap (by omega) (by omega)];omega
 have w3:IntKind.u8.wrap (v%256)=(((v%256).toNat:Nat):Int):=by rw [u8_wrap (by omega) (by omega)];omega
 refine enterO tabOk (N:=85) (gs:=[]) (args:=[_]) Tryz.func34 rfl rfl rfl (nLe rfl) (fun E hE=>?_)
 conv=>whnf
 repeat' ((first|refine BsN.sem (OpAt.bsG (len:=3) tabOk rfl rfl rfl rfl rfl ?_)|refine⟨rfl,rfl,?_⟩|refine OpAt.appG (es:=[[AV.int .u8 (IntKind.u8.wrap (v/16777216))],[AV.int .u8 (IntKind.u8.wrap (v/65536%256))]]) apU8 rfl [] rfl rfl rfl rfl (by simp) (Als.nil _) (by simp) (Xs.sl rfl rfl (fun y hy=>by simp only [List.mem_cons,List.not_mem_nil,or_false] at hy;rcases hy with rfl|rfl<;>rfl) rfl (RvL.pu rfl)) (by decide) (by omega) ?_|refine OpAt.appG (es:=[[AV.int .u8 (IntKind.u8.wrap (v/256%256))],[AV.int .u8 (IntKind.u8.wrap (v%256))]]) apU8 rfl [] rfl rfl rfl rfl (by simp) (Als.nil _) (by simp) (Xs.sl rfl rfl (fun y hy=>by simp only [List.mem_cons,List.not_mem_nil,or_false] at hy;rcases hy with rfl|rfl<;>rfl) rfl (RvL.pu rfl)) (by decide) (by omega) ?_|refine Br.pt (by omega) ?_|refine Br.pf (by omega) ?_|refine CallS.q (eZ) rfl ?_|refine Ob.mk (by omega) ?_|refine Ob.mk (by unfold W.I64 at *;omega) ?_|refine BsN.mark ?_);conv=>whnf)
 rw [q1,q2,w0,w1,w2,w3]
 have eL:Fr.enc kind seq v=[kind.toNat,seq.toNat,4,(v/256/256/256%256).toNat,(v/256/256%256).toNat,(v/256%256).toNat,(v%256).toNat]:=by
  unfold Fr.enc;rw [h];rfl
 have eB:Fr.bytes kind seq v=Fr.enc kind seq v++[(Crc.sum (Fr.enc kind seq v)).toNat/256,(Crc.sum (Fr.enc kind seq v)).toNat%256]:=rfl
 rw [eB,eL]
 obtain⟨L,hL⟩:∃ L,L=[kind.toNat,seq.toNat,4,(v/256/256/256%256).toNat,(v/256/256%256).toNat,(v/256%256).toNat,(v%256).toNat]:=⟨_,rfl⟩
 have hLB:∀ x∈L,x<256:=by
  rw [hL];intro x hx
  simp only [List.mem_cons,List.not_mem_nil,or_false] at hx
  omega
 have hLn:L.length=7:=by rw [hL];rfl
 have hsum:=r6Sum L hLB (by omega)
 have eb:bc L=[[.int .u8 ((kind.toNat:Nat):Int)],[.int .u8 ((seq.toNat:Nat):Int)],[.int .u8 4],[.int .u8 (((v/256/256/256%256).toNat:Nat):Int)],[.int .u8 (((v/256/256%256).toNat:Nat):Int)],[.int .u8 (((v/256%256).toNat:Nat):Int)],[.int .u8 (((v%256).toNat:Nat):Int)]]:=by rw [hL];rfl
 rw [← hL]
 refine CallS.call (CallN.flat [1] (RvL.cons (gro_bytes (e:=L) (by simp) (by rw [eb];rfl) hLn) RvL.nil) (by repeat (first|exact Als.nil _|refine Als.cons rfl rfl ?_)) hsum (fun r hr=>by subst hr;rfl) (fun r hr=>?_))
 subst hr
 obtain⟨x,hx⟩:∃ x,x=(Crc.sum L).toNat:=⟨_,rfl⟩
 have hlt16:=(Crc.sum L).isLt
 rw [← hx] at hlt16 ⊢
 have hw1:IntKind.u8.wrap ((x:Int)/256)=((x/256:Nat):Int):=by rw [u8_wrap (by omega) (by omega)];rfl
 have hw2:IntKind.u8.wrap ((x:Int)%256)=((x%256:Nat):Int):=by rw [u8_wrap (by omega) (by omega)];rfl
 conv=>whnf
 repeat' ((first|refine OpAt.appG (es:=[[AV.int .u8 (IntKind.u8.wrap ((x:Int)/256))],[AV.int .u8 (IntKind.u8.wrap ((x:Int)%256))]]) apU8 rfl [] rfl rfl rfl rfl (by simp) (Als.nil _) (by simp) (Xs.sl rfl rfl (fun y hy=>by simp only [List.mem_cons,List.not_mem_nil,or_false] at hy;rcases hy with rfl|rfl<;>rfl) rfl (RvL.pu rfl)) (by decide) (by omega) ?_|refine Ob.mk (by omega) ?_|refine Ob.mk (by unfold W.I64 at *;omega) ?_|refine BsN.mark ?_);conv=>whnf)
 rw [hw1,hw2]
 exact FinAt.gen (ars:=[bytesV (L++[x/256,x%256]),I 0]) [1] (RvL.cons (gro_bytes (e:=L++[x/256,x%256]) (by simp) (by rw [bc_app,eb];rfl) (by rw [List.length_append,hLn];rfl)) (RvL.pu rfl)) (by repeat (first|exact Als.nil _|refine Als.cons rfl rfl ?_)) rfl
theorem r7PutM(kind seq v:Int)(hk:W.I64 kind)(hs:W.I64 seq)(hv:W.I64 v)(h:Fr.sz kind=4)(ho:okB kind seq v=true)(hp:v<0):Ret Tryz.prog 34 [.agg [I kind,I seq,I v]] (·=.tup [bytesV (Fr.bytes kind seq v),I 0]):=by
 have eZ:=r7Size kind hk
 rw [h] at eZ
 have hkk:=kinds h (by omega)
 unfold W.I64 at hk hs hv
 have hb:(0≤seq∧seq≤255)∧-2147483648≤v∧v≤2147483647:=by
  unfold okB at ho
  rw [if_pos (by omega)] at ho
  simpa using ho
 have q1:IntKind.u8.wrap kind=((kind.toNat:Nat):Int):=by rw [u8_wrap (by omega) (by omega)];omega
 have q2:IntKind.u8.wrap seq=((seq.toNat:Nat):Int):=by rw [u8_wrap (by omega) (by omega)];omega
 have w0:IntKind.u8.wrap ((v+4294967296)/16777216)=(((v/256/256/256%256).toNat:Nat):Int):=by rw [u8_wrap (by omega) (by omega)];omega
 have w1:IntKind.u8.wrap ((v+4294967296)/65536%256)=(((v/256/256%256).toNat:Nat):Int):=by rw [u8_wrap (by omega) (by omega)];omega
 have w2:IntKind.u8.wrap ((v+4294967296)/256%256)=(((v/256%256).toNat:Nat):Int):=by rw [u8_wrap (by omega) (by omega)];omega
 have w3:IntKind.u8.wrap ((v+4294967296)%256)=(((v%256).toNat:Nat):Int):=by rw [u8_wrap (by omega) (by omega)];omega
 refine enterO tabOk (N:=85) (gs:=[]) (args:=[_]) Tryz.func34 rfl rfl rfl (nLe rfl) (fun E hE=>?_)
 conv=>whnf
 repeat' ((first|refine BsN.sem (OpAt.bsG (len:=3) tabOk rfl rfl rfl rfl rfl ?_)|refine⟨rfl,rfl,?_⟩|refine OpAt.appG (es:=[[AV.int .u8 (IntKind.u8.wrap ((v+4294967296)/16777216))],[AV.int .u8 (IntKind.u8.wrap ((v+4294967296)/65536%256))]]) apU8 rfl [] rfl rfl rfl rfl (by simp) (Als.nil _) (by simp) (Xs.sl rfl rfl (fun y hy=>by simp only [List.mem_cons,List.not_mem_nil,or_false] at hy;rcases hy with rfl|rfl<;>rfl) rfl (RvL.pu rfl)) (by decide) (by omega) ?_|refine OpAt.appG (es:=[[AV.int .u8 (IntKind.u8.wrap ((v+4294967296)/256%256))],[AV.int .u8 (IntKind.u8.wrap ((v+4294967296)%256))]]) apU8 rfl [] rfl rfl rfl rfl (by simp) (Als.nil _) (by simp) (Xs.sl rfl rfl (fun y hy=>by simp only [List.mem_cons,List.not_mem_nil,or_false] at hy;rcases hy with rfl|rfl<;>rfl) rfl (RvL.pu rfl)) (by decide) (by omega) ?_|refine Br.pt (by assumption) ?_|refine Br.pt (by omega) ?_|refine Br.pf (by omega) ?_|refine CallS.q (eZ) rfl ?_|refine Ob.mk (by omega) ?_|refine Ob.mk (by unfold W.I64 at *;omega) ?_|refine BsN.mark ?_);conv=>whnf)
 rw [q1,q2,w0,w1,w2,w3]
 have eL:Fr.enc kind seq v=[kind.toNat,seq.toNat,4,(v/256/256/256%256).toNat,(v/256/256%256).toNat,(v/256%256).toNat,(v%256).toNat]:=by
  unfold Fr.enc;rw [h];rfl
 have eB:Fr.bytes kind seq v=Fr.enc kind seq v++[(Crc.sum (Fr.enc kind seq v)).toNat/256,(Crc.sum (Fr.enc kind seq v)).toNat%256]:=rfl
 rw [eB,eL]
 obtain⟨L,hL⟩:∃ L,L=[kind.toNat,seq.toNat,4,(v/256/256/256%256).toNat,(v/256/256%256).toNat,(v/256%256).toNat,(v%256).toNat]:=⟨_,rfl⟩
 have hLB:∀ x∈L,x<256:=by
  rw [hL];intro x hx
  simp only [List.mem_cons,List.not_mem_nil,or_false] at hx
  omega
 have hLn:L.length=7:=by rw [hL];rfl
 have hsum:=r6Sum L hLB (by omega)
 have eb:bc L=[[.int .u8 ((kind.toNat:Nat):Int)],[.int .u8 ((seq.toNat:Nat):Int)],[.int .u8 4],[.int .u8 (((v/256/256/256%256).toNat:Nat):Int)],[.int .u8 (((v/256/256%256).toNat:Nat):Int)],[.int .u8 (((v/256%256).toNat:Nat):Int)],[.int .u8 (((v%256).toNat:Nat):Int)]]:=by rw [hL];rfl
 rw [← hL]
 refine CallS.call (CallN.flat [1] (RvL.cons (gro_bytes (e:=L) (by simp) (by rw [eb];rfl) hLn) RvL.nil) (by repeat (first|exact Als.nil _|refine Als.cons rfl rfl ?_)) hsum (fun r hr=>by subst hr;rfl) (fun r hr=>?_))
 subst hr
 obtain⟨x,hx⟩:∃ x,x=(Crc.sum L).toNat:=⟨_,rfl⟩
 have hlt16:=(Crc.sum L).isLt
 rw [← hx] at hlt16 ⊢
 have hw1:IntKind.u8.wrap ((x:Int)/256)=((x/256:Nat):Int):=by rw [u8_wrap (by omega) (by omega)];rfl
 have hw2:IntKind.u8.wrap ((x:Int)%256)=((x%256:Nat):Int):=by rw [u8_wrap (by omega) (by omega)];rfl
 conv=>whnf
 repeat' ((first|refine OpAt.appG (es:=[[AV.int .u8 (IntKind.u8.wrap ((x:Int)/256))],[AV.int .u8 (IntKind.u8.wrap ((x:Int)%256))]]) apU8 rfl [] rfl rfl rfl rfl (by simp) (Als.nil _) (by simp) (Xs.sl rfl rfl (fun y hy=>by simp only [List.mem_cons,List.not_mem_nil,or_false] at hy;rcases hy with rfl|rfl<;>rfl) rfl (RvL.pu rfl)) (by decide) (by omega) ?_|refine Ob.mk (by omega) ?_|refine Ob.mk (by unfold W.I64 at *;omega) ?_|refine BsN.mark ?_);conv=>whnf)
 rw [hw1,hw2]
 exact FinAt.gen (ars:=[bytesV (L++[x/256,x%256]),I 0]) [1] (RvL.cons (gro_bytes (e:=L++[x/256,x%256]) (by simp) (by rw [bc_app,eb];rfl) (by rw [List.length_append,hLn];rfl)) (RvL.pu rfl)) (by repeat (first|exact Als.nil _|refine Als.cons rfl rfl ?_)) rfl
theorem r7Put0(kind seq v:Int)(hk:W.I64 kind)(h:Fr.sz kind=0):Ret Tryz.prog 34 [.agg [I kind,I seq,I v]] (·=.tup [.emp,I 30]):=by
 have eZ:=r7Size kind hk
 rw [h] at eZ
 unfold W.I64 at hk
 refine enterO tabOk (N:=85) (gs:=[]) (args:=[_]) Tryz.func34 rfl rfl rfl (nLe rfl) (fun E hE=>?_)
 conv=>whnf
 repeat' ((first|refine Br.pt (by omega) ?_|refine CallS.q (eZ) rfl ?_|refine FinAt.val rfl ?_);conv=>whnf)
 all_goals rfl
theorem r7PutN(kind seq v:Int)(hk:W.I64 kind)(h:Fr.sz kind≠0)(ho:okB kind seq v=false):Ret Tryz.prog 34 [.agg [I kind,I seq,I v]] (·=.tup [.emp,I 10]):=by
 have eZ:=r7Size kind hk
 have h24:Fr.sz kind=2∨Fr.sz kind=4:=by rcases Fr.sz_cases kind with q|q|q<;>omega
 unfold W.I64 at hk
 rcases h24 with h2|h4
 ·rw [h2] at eZ
  have hb:¬ ((0≤seq∧seq≤255)∧0≤v∧v≤65535):=by
   unfold okB at ho
   rw [if_neg (by omega)] at ho
   simpa using ho
  refine enterO tabOk (N:=85) (gs:=[]) (args:=[_]) Tryz.func34 rfl rfl rfl (nLe rfl) (fun E hE=>?_)
  conv=>whnf
  repeat' (first|((first|refine Br.pt (by assumption) ?_|refine Br.pf (by assumption) ?_|refine Br.pt (by omega) ?_|refine Br.pf (by omega) ?_|refine Br.ot rfl ?_|refine CallS.q (eZ) rfl ?_|refine FinAt.val rfl ?_);conv=>whnf)|((refine Br.d (fun h=>?_) (fun h=>?_))<;>conv=>whnf))
  all_goals rfl
 ·rw [h4] at eZ
  have hb:¬ ((0≤seq∧seq≤255)∧-2147483648≤v∧v≤2147483647):=by
   unfold okB at ho
   rw [if_pos (by omega)] at ho
   simpa using ho
  refine enterO tabOk (N:=85) (gs:=[]) (args:=[_]) Tryz.func34 rfl rfl rfl (nLe rfl) (fun E hE=>?_)
  conv=>whnf
  repeat' (first|((first|refine Br.pt (by assumption) ?_|refine Br.pf (by assumption) ?_|refine Br.pt (by omega) ?_|refine Br.pf (by omega) ?_|refine Br.ot rfl ?_|refine CallS.q (eZ) rfl ?_|refine FinAt.val rfl ?_);conv=>whnf)|((refine Br.d (fun h=>?_) (fun h=>?_))<;>conv=>whnf))
  all_goals rfl
theorem apTxt:Ap Tryz.prog 82 85 1:=⟨.slice none 0 0,24,by kernel_rfl,by kernel_rfl,rfl,by decide,by decide⟩
def tc(L:List (List Nat)):List (List AV):=L.map fun l=>[bytesV l]
theorem tc_len(L:List (List Nat)):(tc L).length=L.length:=by simp [tc]
theorem tc_app(a b:List (List Nat)):tc (a++b)=tc a++tc b:=by simp [tc]
theorem ySend(L:List (List Nat))(kind cycle v:Int)(hk:W.I64 kind)(hc:0≤cycle∧cycle≤1000000)(hv:W.I64 v)(n:Nat)(hn:L.length=n)(hL:n≤2000000) :
  RetV Tryz.prog 64 [.buf 85 1 (tc L)] [.gro 0 n,I kind,I cycle,I v] (fun r gs=>r=.gro 0 (L++sendB kind (cycle%256) v).length∧gs=[.buf 85 1 (tc (L++sendB kind (cycle%256) v))]):=by
 subst hn
 have hs:W.I64 (cycle%256):=by unfold W.I64;omega
 by_cases h0:Fr.sz kind=0
 ·have e0:=r7Put0 kind (cycle%256) v hk h0
  rw [show sendB kind (cycle%256) v=[] by unfold sendB;rw [if_neg (fun q=>q.1 h0)],List.append_nil]
  refine enterV tabOk (N:=27) (gs:=[_]) (args:=[_,_,_,_]) Tryz.func64 rfl rfl rfl (nLe rfl) (fun E hE=>?_)
  conv=>whnf
  repeat' ((first|refine Br.nt (by omega) ?_|refine CallS.q (e0) rfl ?_|refine Ob.mk (by omega) ?_);conv=>whnf)
  exact⟨_,rfl,rfl,rfl,Nat.le_refl _,rfl,rfl,rfl⟩
 ·by_cases h1:okB kind (cycle%256) v=true
  ·have e0:Ret Tryz.prog 34 [.agg [I kind,I (cycle%256),I v]] (·=.tup [bytesV (Fr.bytes kind (cycle%256) v),I 0]):=by
    rcases Fr.sz_cases kind with q|q|q
    ·omega
    ·exact r7PutB kind _ v hk hs hv q.1 h1
    ·by_cases hp:0≤v
     ·exact r7PutP kind _ v hk hs hv q.1 h1 hp
     ·exact r7PutM kind _ v hk hs hv q.1 h1 (by omega)
   rw [show sendB kind (cycle%256) v=[Fr.bytes kind (cycle%256) v] by unfold sendB;rw [if_pos ⟨h0,h1⟩]]
   refine enterV tabOk (N:=27) (gs:=[_]) (args:=[_,_,_,_]) Tryz.func64 rfl rfl rfl (nLe rfl) (fun E hE=>?_)
   conv=>whnf
   repeat' ((first|refine OpAt.appG apTxt rfl [] rfl rfl rfl (tc_len L) (by simp) (Als.nil _) (by simp) (Xs.one rfl rfl rfl (RvL.pu rfl) rfl) (by decide) (by omega) ?_|refine Br.nf (by omega) ?_|refine CallS.q (e0) rfl ?_|refine Ob.mk (by omega) ?_|refine BsN.mark ?_);conv=>whnf)
   refine⟨_,rfl,rfl,rfl,nLe rfl,rfl,by simp,?_⟩
   rw [tc_app]
   rfl
  ·have e0:=r7PutN kind (cycle%256) v hk h0 (by simpa using h1)
   rw [show sendB kind (cycle%256) v=[] by unfold sendB;rw [if_neg (fun q=>h1 q.2)],List.append_nil]
   refine enterV tabOk (N:=27) (gs:=[_]) (args:=[_,_,_,_]) Tryz.func64 rfl rfl rfl (nLe rfl) (fun E hE=>?_)
   conv=>whnf
   repeat' ((first|refine Br.nt (by omega) ?_|refine CallS.q (e0) rfl ?_|refine Ob.mk (by omega) ?_);conv=>whnf)
   exact⟨_,rfl,rfl,rfl,Nat.le_refl _,rfl,rfl,rfl⟩
theorem run_append_0{P:Program}{S E ty:TypeId}{i:TypeInfo}(hS:P.underlying S=some (.slice E))(hi:P.info? E=some i)(w:World)(A:Option Addr)(c:Nat):(Builtin.append_ #[S,S] ty #[.slice none 0 0,.slice A 0 c]).run P w=.ok (.slice none 0 0) w:=by
 cases A with
 |none=>simp [Builtin.append_,run_underlying hS,sizeOf,typeInfo,hi,Builtin.lenOf,Builtin.firstCells]
 |some a=>simp [Builtin.append_,run_underlying hS,sizeOf,typeInfo,hi,Builtin.lenOf,Builtin.firstCells,loadCells,loadCellsFrom]
theorem OpAt.app0{P:Program}{St e sz:Nat}{o:Oper}{s x:Operand}{tm:Tm}{own:Ow}{N:Nat}{E:En}{K:Tm→Ow→Prop}(hA:Ap P St e sz)(ho:o.op=.call { callee:=.builtin .append,args:=#[s,x],argTypes:=#[St,St] }){f:Nat→List AV}{sz':Nat}(hs:ev tm s fun v=>v=.emp)(hx:ev tm x fun v=>v=.lst sz' 0 f)
  (hK:put N tm o.dst .emp fun tm=>K tm own):OpAt P N E o K tm own:=by
 refine⟨fun S ids a w hsim Q=>?_⟩
 obtain⟨v,hv,h2⟩:=ev_sound hs
 subst hv
 obtain⟨u,hu,h3⟩:=ev_sound hx
 subst hu
 have e1:a.eval s=.slice none 0 0:=(h2 S w ids a hsim.sl).emp
 have h4:=(R_pu (a:=AV.lst sz' 0 f) rfl).1 (h3 S w ids a hsim.sl)
 obtain⟨A,c,e2,_⟩:=h4
 obtain⟨z,bytes,a1,a2,a3,a4,a5⟩:=hA
 obtain⟨i,hi,_⟩:=info_parts a2
 have hr:=run_append_0 (P:=P) (ty:=o.type) a1 hi w A c
 obtain⟨tm',k1,k2⟩:=put_sound hK
 have:=k2 E _ _ _ a w (.slice none 0 0) hsim (e1 ▸ h2 S w ids a hsim.sl)
 unfold Oper.wp execOp
 simp only [ho,resolve,invoke,builtin,Sem.run_bind,Sem.run_pure,Result.andThen_ok,List.map_toArray,List.map_cons,List.map_nil,e1,e2,hr]
 exact⟨tm',_,_,_,k1,this⟩
section
variable{P:Program}{f:Nat}{vs ars:List AV}{tm:Tm}{own:Ow}{N:Nat}{E:En}{dst:Option Nat}{K:Tm→Ow→Prop}
theorem CallN.updVE(J I:List Nat){gs gs0:List OB}{r0:AV}(hv:RvJL own J I vs ars)(hI:Als own I)(hg:∀ i∈I,E.gs.length≤i)(hJ:Giv own J I gs)(h:RetV P f gs ars (fun r g=>r=r0∧g=gs0))
  (hK:put N tm dst (rn0 J r0) fun tm=>K tm (putJ J (gs0.map (rnO J)) (killI I own))):CallN P N E f vs dst K tm own :=
 CallN.updV J I hv hI hg hJ h (fun r g hp _=>by obtain⟨rfl,rfl⟩:=hp;exact hK)
end
theorem givBuf{own:Ow}{j e sz:Nat}{l:List (List AV)}(hb:nth own j=some (.buf e sz l)):Giv own [j] [] [.buf e sz l] :=
 ⟨rfl,by simp,by simp,Giv.consO hb rfl (fun cs h=>by cases h) Giv.done⟩
end Y
end Go.Proofs.YtllemifiammnnaaGreat
