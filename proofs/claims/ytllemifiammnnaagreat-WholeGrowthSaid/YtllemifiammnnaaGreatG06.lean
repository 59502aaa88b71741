/- Part 6 of the proof. No condition. -/
import Derived.Test.YtllemifiammnnaaGreatG05
import Derived.Test.YtllemifiammnnaaGreatG03
import Derived.Test.YtllemifiammnnaaGreatG02
set_option linter.unusedVariables false
set_option linter.unusedSimpArgs false
set_option maxRecDepth 100000
set_option maxHeartbeats 4000000
namespace Go.Proofs.YtllemifiammnnaaGreat
section
namespace W
def learnB(circ way:Sp)(pulses n:Int):Sp×Bool :=
 let o (r:Sp×Bool):Sp×Bool:=if r.2 then (if (circ.meet r.1).2 then ((circ.meet r.1).1,true) else (circ,false)) else (circ,false)
 if n<0∧-4611686018427387904<n then
  if (Sp.sub ⟨0,0⟩ way).2 then o (reckoned (Sp.sub ⟨0,0⟩ way).1 pulses (-n)) else (circ,false)
 else o (reckoned way pulses n)
theorem learnB_fst(c w:Sp)(p n:Int):(learnB c w p n).1=learn c w p n:=by
 unfold learnB learn learnOwn
 dsimp only
 split<;>(try split)<;>(try split)<;>(try split)<;>rfl
theorem both_i{a b:Int}{h:Prop}[Decidable h](hh:h→I64 a∧I64 b):I64 (both a b h).1.lo∧I64 (both a b h).1.hi:=by
 unfold both
 split
 ·next q=>exact hh q
 ·exact⟨by decide,by decide⟩
theorem sub_i(s t:Sp):I64 (s.sub t).1.lo∧I64 (s.sub t).1.hi:=both_i fun h=>⟨h.2.2.1,h.2.2.2⟩
theorem grow_i(s:Sp)(f:Int):I64 (s.grow f).1.lo∧I64 (s.grow f).1.hi:=both_i fun h=>⟨h.2.1,h.2.2.1⟩
theorem error_b(g:Conf)(r:Int)(h0:0≤g.radBase)(h1:g.radBase≤1048576)(h2:0≤g.radPart)(h3:g.radPart≤65536)(h4:-4294967296≤r)(h5:r≤4294967296):0≤(divQ (max r (-r)) g.radPart 1048576 false).1∧(divQ (max r (-r)) g.radPart 1048576 false).1≤268435456:=by
 have m0:0≤max r (-r)*g.radPart:=Int.mul_nonneg (by omega) h2
 have m1:max r (-r)*g.radPart≤4294967296*65536:=Int.mul_le_mul (by omega) h3 h2 (by omega)
 rw [divQ_f (by omega)]
 have:=fdiv_bounds (max r (-r)*g.radPart) (show (0:Int)<1048576 by omega)
 split<;>(dsimp only;omega)
end W
namespace Y
open Go Go.RowKit Go.Sort
theorem spTimes(a b k y:Int)(h0:W.I64 a)(h1:W.I64 b)(h2:W.I64 k)(h3:W.I64 y):Ret Tryz.prog 175 [.agg [.int .i64 a,.int .i64 b],.int .i64 (k),.int .i64 (y)] (·=.tup [.agg [.int .i64 (W.Sp.times ⟨a,b⟩ k y).1.lo,.int .i64 (W.Sp.times ⟨a,b⟩ k y).1.hi],.int .i64 (W.Sp.times ⟨a,b⟩ k y).2]):=by
 have eR:Ret Tryz.prog 20 [.agg [.int .i64 a,.int .i64 b]] (·=.bool (decide (a≤b))):=spRight a b
 by_cases c0:¬ a≤b∨y<1
 ·have e:W.Sp.times ⟨a,b⟩ k y=(⟨0,0⟩,10):=if_pos c0
  rw [e]
  refine enterO tabOk (N:=54) (gs:=[]) (args:=[_,_,_]) Tryz.func175 rfl rfl rfl (nLe rfl) (fun E hE=>?_)
  conv=>whnf
  repeat' (first|((first|refine Br.nt (by assumption) ?_|refine Br.nf (by assumption) ?_|refine Br.pt (by omega) ?_|refine Br.ot rfl ?_|refine CallS.q (eR) rfl ?_|refine FinAt.val rfl ?_);conv=>whnf)|((refine Br.n (fun h=>?_) (fun h=>?_))<;>conv=>whnf))
  all_goals first|rfl|omega
 have k1:k<0∨0≤k:=by omega
 obtain⟨lo,hlo,lo1,lo2⟩:∃ lo,(if k<0 then b else a)=lo∧(k<0→lo=b)∧(0≤k→lo=a):=⟨_,rfl,fun h=>if_pos h,fun h=>if_neg (by omega)⟩
 obtain⟨hi,hhi,hi1,hi2⟩:∃ hi,(if k<0 then a else b)=hi∧(k<0→hi=a)∧(0≤k→hi=b):=⟨_,rfl,fun h=>if_pos h,fun h=>if_neg (by omega)⟩
 have hL:W.I64 lo:=by
  rcases k1 with q|q
  ·rw [lo1 q];exact h1
  ·rw [lo2 q];exact h0
 have hH:W.I64 hi:=by
  rcases k1 with q|q
  ·rw [hi1 q];exact h0
  ·rw [hi2 q];exact h1
 have eF:=rFloor k lo y h2 hL h3
 have eC:=rCeil k hi y h2 hH h3
 have e:W.Sp.times ⟨a,b⟩ k y=if (W.divQ k lo y false).2≠0 then (⟨0,0⟩,(W.divQ k lo y false).2) else if (W.divQ k hi y true).2≠0 then (⟨0,0⟩,(W.divQ k hi y true).2) else (⟨(W.divQ k lo y false).1,(W.divQ k hi y true).1⟩,0):=by
  unfold W.Sp.times
  rw [if_neg (show ¬ (¬ W.Sp.right ⟨a,b⟩∨y<1) from c0)]
  dsimp only
  rw [hlo,hhi]
 rw [e]
 by_cases c1:(W.divQ k lo y false).2≠0
 ·rw [if_pos c1]
  rcases k1 with q|q
  ·have q1:=lo1 q
   have q2:=hi1 q
   subst q1 q2
   refine enterO tabOk (N:=54) (gs:=[]) (args:=[_,_,_]) Tryz.func175 rfl rfl rfl (nLe rfl) (fun E hE=>?_)
   conv=>whnf
   repeat' ((first|refine Br.pt (by assumption) ?_|refine Br.nt (by assumption) ?_|refine Br.pf (by omega) ?_|refine Br.nf (by omega) ?_|refine CallS.q (eR) rfl ?_|refine CallS.q (eF) rfl ?_|refine Drw.loose (by kernel_rfl) ?_|refine FinAt.val rfl ?_);conv=>whnf)
   all_goals first|rfl|omega
  ·have q1:=lo2 q
   have q2:=hi2 q
   subst q1 q2
   refine enterO tabOk (N:=54) (gs:=[]) (args:=[_,_,_]) Tryz.func175 rfl rfl rfl (nLe rfl) (fun E hE=>?_)
   conv=>whnf
   repeat' ((first|refine Br.nt (by assumption) ?_|refine Br.pf (by omega) ?_|refine Br.nf (by omega) ?_|refine CallS.q (eR) rfl ?_|refine CallS.q (eF) rfl ?_|refine Drw.loose (by kernel_rfl) ?_|refine FinAt.val rfl ?_);conv=>whnf)
   all_goals first|rfl|omega
 rw [if_neg c1]
 have c1:(W.divQ k lo y false).2=0:=by omega
 by_cases c2:(W.divQ k hi y true).2≠0
 ·rw [if_pos c2]
  rcases k1 with q|q
  ·have q1:=lo1 q
   have q2:=hi1 q
   subst q1 q2
   refine enterO tabOk (N:=54) (gs:=[]) (args:=[_,_,_]) Tryz.func175 rfl rfl rfl (nLe rfl) (fun E hE=>?_)
   conv=>whnf
   repeat' ((first|refine Br.pt (by assumption) ?_|refine Br.nt (by assumption) ?_|refine Br.nf (by assumption) ?_|refine Br.pf (by omega) ?_|refine Br.nf (by omega) ?_|refine CallS.q (eR) rfl ?_|refine CallS.q (eF) rfl ?_|refine CallS.q (eC) rfl ?_|refine Drw.loose (by kernel_rfl) ?_|refine FinAt.val rfl ?_);conv=>whnf)
   all_goals first|rfl|omega
  ·have q1:=lo2 q
   have q2:=hi2 q
   subst q1 q2
   refine enterO tabOk (N:=54) (gs:=[]) (args:=[_,_,_]) Tryz.func175 rfl rfl rfl (nLe rfl) (fun E hE=>?_)
   conv=>whnf
   repeat' ((first|refine Br.nt (by assumption) ?_|refine Br.nf (by assumption) ?_|refine Br.pf (by omega) ?_|refine Br.nf (by omega) ?_|refine CallS.q (eR) rfl ?_|refine CallS.q (eF) rfl ?_|refine CallS.q (eC) rfl ?_|refine Drw.loose (by kernel_rfl) ?_|refine FinAt.val rfl ?_);conv=>whnf)
   all_goals first|rfl|omega
 ·rw [if_neg c2]
  have c2:(W.divQ k hi y true).2=0:=by omega
  rcases k1 with q|q
  ·have q1:=lo1 q
   have q2:=hi1 q
   subst q1 q2
   refine enterO tabOk (N:=54) (gs:=[]) (args:=[_,_,_]) Tryz.func175 rfl rfl rfl (nLe rfl) (fun E hE=>?_)
   conv=>whnf
   repeat' ((first|refine Br.pt (by assumption) ?_|refine Br.nf (by assumption) ?_|refine Br.pf (by omega) ?_|refine Br.nf (by omega) ?_|refine CallS.q (eR) rfl ?_|refine CallS.q (eF) rfl ?_|refine CallS.q (eC) rfl ?_|refine Drw.loose (by kernel_rfl) ?_|refine FinAt.val rfl ?_);conv=>whnf)
   all_goals first|rfl|omega
  ·have q1:=lo2 q
   have q2:=hi2 q
   subst q1 q2
   refine enterO tabOk (N:=54) (gs:=[]) (args:=[_,_,_]) Tryz.func175 rfl rfl rfl (nLe rfl) (fun E hE=>?_)
   conv=>whnf
   repeat' ((first|refine Br.nf (by assumption) ?_|refine Br.pf (by omega) ?_|refine Br.nf (by omega) ?_|refine CallS.q (eR) rfl ?_|refine CallS.q (eF) rfl ?_|refine CallS.q (eC) rfl ?_|refine Drw.loose (by kernel_rfl) ?_|refine FinAt.val rfl ?_);conv=>whnf)
   all_goals first|rfl|omega
theorem cfCirc(g:W.Conf) :Ret Tryz.prog 50 [.agg (confC g)] (·=.agg [.int .i64 g.circ.lo,.int .i64 g.circ.hi]):=by
 refine enterO tabOk (N:=8) (gs:=[]) (args:=[_]) Tryz.func50 rfl rfl rfl (nLe rfl) (fun E hE=>?_)
 conv=>whnf
 repeat' ((refine FinAt.val rfl ?_);conv=>whnf)
 all_goals rfl
theorem cfSpeeds(g:W.Conf)(h0:0≤g.maxSpeed)(h1:g.maxSpeed≤16777216):Ret Tryz.prog 51 [.agg (confC g)] (·=.agg [.int .i64 g.speeds.lo,.int .i64 g.speeds.hi]):=by
 refine enterO tabOk (N:=9) (gs:=[]) (args:=[_]) Tryz.func51 rfl rfl rfl (nLe rfl) (fun E hE=>?_)
 conv=>whnf
 repeat' ((first|refine Ob.mk (by unfold W.I64 at *;omega) ?_|refine FinAt.val rfl ?_);conv=>whnf)
 all_goals rfl
theorem cfError(g:W.Conf)(r:Int)(h0:0≤g.radBase)(h1:g.radBase≤1048576)(h2:0≤g.radPart)(h3:g.radPart≤65536)(h4:-4294967296≤r)(h5:r≤4294967296):Ret Tryz.prog 177 [.agg (confC g),.int .i64 (r)] (·=.int .i64 (g.error r)):=by
 have hb:=W.error_b g r h0 h1 h2 h3 h4 h5
 have eF:Ret Tryz.prog 193 [.int .i64 (max r (-r)),.int .i64 g.radPart,.int .i64 1048576] _:=rFloor (max r (-r)) g.radPart 1048576 (by unfold W.I64;omega) (by unfold W.I64;omega) (by decide)
 refine enterO tabOk (N:=21) (gs:=[]) (args:=[_,_]) Tryz.func177 rfl rfl rfl (nLe rfl) (fun E hE=>?_)
 conv=>whnf
 repeat' ((first|refine CallS.q (eF) rfl ?_|refine Ob.mk (by unfold W.I64 at *;omega) ?_|refine FinAt.val rfl ?_);conv=>whnf)
 all_goals rfl
theorem tacho(d a b y:Int)(h0:W.I64 d)(h1:W.I64 a)(h2:W.I64 b)(h3:W.I64 y):Ret Tryz.prog 125 [.int .i64 (d),.agg [.int .i64 a,.int .i64 b],.int .i64 (y)] (·=.tup [.agg [.int .i64 (W.tacho d ⟨a,b⟩ y).1.lo,.int .i64 (W.tacho d ⟨a,b⟩ y).1.hi],.int .i64 (W.tacho d ⟨a,b⟩ y).2]):=by
 by_cases c0:d < -32768∨32767<d
 ·have e:W.tacho d ⟨a,b⟩ y=(⟨0,0⟩,10):=if_pos c0
  rw [e]
  refine enterO tabOk (N:=45) (gs:=[]) (args:=[_,_,_]) Tryz.func125 rfl rfl rfl (nLe rfl) (fun E hE=>?_)
  conv=>whnf
  repeat' (first|((first|refine Br.pt (by assumption) ?_|refine Br.pf (by assumption) ?_|refine Br.pt (by omega) ?_|refine Br.ot rfl ?_|refine FinAt.val rfl ?_);conv=>whnf)|((refine Br.d (fun h=>?_) (fun h=>?_))<;>conv=>whnf))
  all_goals first|rfl|omega
 have e1:=spTimes a b (d-1) y h1 h2 (by unfold W.I64;omega) h3
 have e2:=spTimes a b (d+1) y h1 h2 (by unfold W.I64;omega) h3
 have e:W.tacho d ⟨a,b⟩ y=if (W.Sp.times ⟨a,b⟩ (d-1) y).2≠0 then (⟨0,0⟩,(W.Sp.times ⟨a,b⟩ (d-1) y).2) else if (W.Sp.times ⟨a,b⟩ (d+1) y).2≠0 then (⟨0,0⟩,(W.Sp.times ⟨a,b⟩ (d+1) y).2) else ((W.Sp.times ⟨a,b⟩ (d-1) y).1.hull (W.Sp.times ⟨a,b⟩ (d+1) y).1,0):=if_neg c0
 rw [e]
 have eH:Ret Tryz.prog 86 [.agg [.int .i64 (W.Sp.times ⟨a,b⟩ (d-1) y).1.lo,.int .i64 (W.Sp.times ⟨a,b⟩ (d-1) y).1.hi],.agg [.int .i64 (W.Sp.times ⟨a,b⟩ (d+1) y).1.lo,.int .i64 (W.Sp.times ⟨a,b⟩ (d+1) y).1.hi]] _:=spHull _ _ _ _
 by_cases c1:(W.Sp.times ⟨a,b⟩ (d-1) y).2≠0
 ·rw [if_pos c1]
  refine enterO tabOk (N:=45) (gs:=[]) (args:=[_,_,_]) Tryz.func125 rfl rfl rfl (nLe rfl) (fun E hE=>?_)
  conv=>whnf
  repeat' ((first|refine Br.nt (by assumption) ?_|refine Br.pf (by omega) ?_|refine CallS.q (e1) rfl ?_|refine Ob.mk (by unfold W.I64 at *;omega) ?_|refine FinAt.val rfl ?_);conv=>whnf)
  all_goals first|rfl|omega
 rw [if_neg c1]
 have c1:(W.Sp.times ⟨a,b⟩ (d-1) y).2=0:=by omega
 by_cases c2:(W.Sp.times ⟨a,b⟩ (d+1) y).2≠0
 ·rw [if_pos c2]
  refine enterO tabOk (N:=45) (gs:=[]) (args:=[_,_,_]) Tryz.func125 rfl rfl rfl (nLe rfl) (fun E hE=>?_)
  conv=>whnf
  repeat' ((first|refine Br.nt (by assumption) ?_|refine Br.nf (by assumption) ?_|refine Br.pf (by omega) ?_|refine CallS.q (e1) rfl ?_|refine CallS.q (e2) rfl ?_|refine Ob.mk (by unfold W.I64 at *;omega) ?_|refine FinAt.val rfl ?_);conv=>whnf)
  all_goals first|rfl|omega
 ·rw [if_neg c2]
  have c2:(W.Sp.times ⟨a,b⟩ (d+1) y).2=0:=by omega
  refine enterO tabOk (N:=45) (gs:=[]) (args:=[_,_,_]) Tryz.func125 rfl rfl rfl (nLe rfl) (fun E hE=>?_)
  conv=>whnf
  repeat' ((first|refine Br.nf (by assumption) ?_|refine Br.pf (by omega) ?_|refine CallS.q (e1) rfl ?_|refine CallS.q (e2) rfl ?_|refine CallS.q (eH) rfl ?_|refine Ob.mk (by unfold W.I64 at *;omega) ?_|refine FinAt.val rfl ?_);conv=>whnf)
  all_goals first|rfl|omega
theorem radar(g:W.Conf)(r:Int)(h0:0≤g.radBase)(h1:g.radBase≤1048576)(h2:0≤g.radPart)(h3:g.radPart≤65536)(h4:-4294967296≤r)(h5:r≤4294967296):Ret Tryz.prog 126 [.agg (confC g),.int .i64 (r)] (·=.agg [.int .i64 (W.radar g r).lo,.int .i64 (W.radar g r).hi]):=by
 have hb:=W.error_b g r h0 h1 h2 h3 h4 h5
 have e1:=cfError g r h0 h1 h2 h3 h4 h5
 have hi:W.I64 (g.error r):=by unfold W.Conf.error W.I64;omega
 have e2:Ret Tryz.prog 176 [.int .i64 r,.int .i64 (g.error r)] _:=spAround r (g.error r) (by unfold W.I64;omega) hi
 refine enterO tabOk (N:=16) (gs:=[]) (args:=[_,_]) Tryz.func126 rfl rfl rfl (nLe rfl) (fun E hE=>?_)
 conv=>whnf
 repeat' ((first|refine CallS.q (e1) rfl ?_|refine CallS.q (e2) rfl ?_|refine FinAt.val rfl ?_);conv=>whnf)
 all_goals rfl
theorem accel(g:W.Conf)(m a b:Int)(h0:0≤g.accErr)(h1:g.accErr≤1048576)(h2:W.I64 m)(h3:W.I64 a)(h4:W.I64 b):Ret Tryz.prog 135 [.agg (confC g),.int .i64 (m),.agg [.int .i64 a,.int .i64 b]] (·=.agg [.int .i64 (W.accel g m ⟨a,b⟩).lo,.int .i64 (W.accel g m ⟨a,b⟩).hi]):=by
 have hs:=W.sub_i ⟨m,m⟩ ⟨a,b⟩
 have e1:Ret Tryz.prog 84 [.int .i64 m] _:=spAt m
 have e2:=spSub m m a b h2 h2 h3 h4
 have e3:=spGrow _ _ g.accErr hs.1 hs.2 (by unfold W.I64;omega)
 refine enterO tabOk (N:=24) (gs:=[]) (args:=[_,_,_]) Tryz.func135 rfl rfl rfl (nLe rfl) (fun E hE=>?_)
 conv=>whnf
 repeat' (first|((first|(refine Drw.len 10 8 rfl rfl ?_;refine Drw.allocM tabOk [0,1,2,3,4,5,6,7] [0,1,2,3,4,5,7] [[],[6]] [8,9] 7 (by kernel_rfl) (by kernel_rfl) (by kernel_rfl) (by kernel_rfl) rfl (by simp [hE]) ?_)|refine CallS.q (e3) rfl ?_|refine CallD.pu (e1) rfl ?_|refine CallD.pu (e2) rfl ?_|refine FinAt.val rfl ?_);conv=>whnf)|((refine Both.mk ?_ ?_)<;>conv=>whnf))
 all_goals rfl
theorem from_(a b c d:Int)(h0:W.I64 a)(h1:W.I64 b)(h2:W.I64 c)(h3:W.I64 d):Ret Tryz.prog 134 [.agg [.int .i64 a,.int .i64 b],.agg [.int .i64 c,.int .i64 d]] (·=.agg [.int .i64 (W.fromTo ⟨a,b⟩ ⟨c,d⟩).lo,.int .i64 (W.fromTo ⟨a,b⟩ ⟨c,d⟩).hi]):=by
 have e1:=spAdd a b c d h0 h1 h2 h3
 refine enterO tabOk (N:=14) (gs:=[]) (args:=[_,_]) Tryz.func134 rfl rfl rfl (nLe rfl) (fun E hE=>?_)
 conv=>whnf
 repeat' ((first|refine CallS.q (e1) rfl ?_|refine FinAt.val rfl ?_);conv=>whnf)
 all_goals rfl
theorem prior(g:W.Conf)(a b:Int)(h0:0≤g.maxSpeed)(h1:g.maxSpeed≤16777216)(h2:0≤g.maxAccel)(h3:g.maxAccel≤1048576)(h4:W.I64 a)(h5:W.I64 b):Ret Tryz.prog 92 [.agg (confC g),.agg [.int .i64 a,.int .i64 b]] (·=.agg [.int .i64 (W.prior g ⟨a,b⟩).lo,.int .i64 (W.prior g ⟨a,b⟩).hi]):=by
 have hs:=W.grow_i ⟨a,b⟩ g.maxAccel
 have e1:=spGrow a b g.maxAccel h4 h5 (by unfold W.I64;omega)
 have e2:=cfSpeeds g h0 h1
 have e3:Ret Tryz.prog 133 [.agg [.int .i64 (W.Sp.grow ⟨a,b⟩ g.maxAccel).1.lo,.int .i64 (W.Sp.grow ⟨a,b⟩ g.maxAccel).1.hi],.agg [.int .i64 g.speeds.lo,.int .i64 g.speeds.hi]] _:=spMeet _ _ _ _
 refine enterO tabOk (N:=22) (gs:=[]) (args:=[_,_]) Tryz.func92 rfl rfl rfl (nLe rfl) (fun E hE=>?_)
 conv=>whnf
 repeat' ((first|refine CallS.q (e1) rfl ?_|refine CallX.pu (e2) rfl rfl ?_|refine CallX.pu (e3) rfl rfl ?_|refine Drw.loose (by kernel_rfl) ?_|refine FinAt.val rfl ?_);conv=>whnf)
 all_goals rfl
theorem delta(a b:Int)(h0:0≤a)(h1:a<65536)(h2:0≤b)(h3:b<65536):Ret Tryz.prog 174 [.int .u16 a,.int .u16 b] (·=.int .i64 (W.delta a b)):=by
 have e:IntKind.i16.wrap (IntKind.u16.wrap (b-a))=W.delta a b:=by
  unfold W.delta
  simp [IntKind.wrap,IntKind.bits,IntKind.signed]
  omega
 have hw:W.I64 (IntKind.i16.wrap (IntKind.u16.wrap (b-a))):=by
  rw [e]
  unfold W.delta W.I64
  omega
 refine enterO tabOk (N:=10) (gs:=[]) (args:=[_,_]) Tryz.func174 rfl rfl rfl (nLe rfl) (fun E hE=>?_)
 conv=>whnf
 repeat' ((first|refine Ob.mk (by omega) ?_|refine FinAt.val rfl ?_);conv=>whnf)
 all_goals exact eqI e
theorem ctNext(k:Bool)(l s n:Int)(has:Bool)(h0:0≤l)(h1:l<65536)(h2:W.I64 s)(h3:W.I64 n):Ret Tryz.prog 124 [.agg [.bool k,.int .u16 l,.int .i64 s],.int .i64 (n),.bool has] (·=.tup [.agg [.bool (W.Counter.next ⟨k,l,s⟩ n has).1.known,.int .u16 (W.Counter.next ⟨k,l,s⟩ n has).1.last,.int .i64 (W.Counter.next ⟨k,l,s⟩ n has).1.sum],.int .i64 (W.Counter.next ⟨k,l,s⟩ n has).2.1,.bool (W.Counter.next ⟨k,l,s⟩ n has).2.2]):=by
 cases has with
 |false =>
  refine enterO tabOk (N:=36) (gs:=[]) (args:=[_,_,_]) Tryz.func124 rfl rfl rfl (nLe rfl) (fun E hE=>?_)
  conv=>whnf
  repeat' ((first|refine Br.ot rfl ?_|refine FinAt.val rfl ?_);conv=>whnf)
  all_goals rfl
 |true =>
  have eu:IntKind.u16.wrap n=n%65536:=by
   simp [IntKind.wrap,IntKind.bits,IntKind.signed]
  cases k with
  |false =>
   refine enterO tabOk (N:=36) (gs:=[]) (args:=[_,_,_]) Tryz.func124 rfl rfl rfl (nLe rfl) (fun E hE=>?_)
   conv=>whnf
   repeat' ((first|refine Br.ot rfl ?_|refine Br.of rfl ?_|refine FinAt.val rfl ?_);conv=>whnf)
   all_goals (rw [eu];rfl)
  |true =>
   have hd:-32768≤W.delta l (n%65536)∧W.delta l (n%65536)≤32767:=by unfold W.delta;omega
   have e1:=delta l (IntKind.u16.wrap n) h0 h1 (by rw [eu];omega) (by rw [eu];omega)
   have e2:Ret Tryz.prog 142 [.int .i64 s,.int .i64 (W.delta l (IntKind.u16.wrap n))] _:=nAddSat _ _ h2 (by rw [eu];unfold W.I64;omega)
   refine enterO tabOk (N:=36) (gs:=[]) (args:=[_,_,_]) Tryz.func124 rfl rfl rfl (nLe rfl) (fun E hE=>?_)
   conv=>whnf
   repeat' ((first|refine Br.of rfl ?_|refine CallS.q (e1) rfl ?_|refine CallS.q (e2) rfl ?_|refine FinAt.val rfl ?_);conv=>whnf)
   all_goals (rw [eu];rfl)
theorem reckoned(a b p n:Int)(h0:W.I64 a)(h1:W.I64 b)(h2:W.I64 p)(h3:-4611686018427387904≤n)(h4:n≤4611686018427387904):Ret Tryz.prog 189 [.agg [.int .i64 a,.int .i64 b],.int .i64 (p),.int .i64 (n)] (·=.tup [.agg [.int .i64 (W.reckoned ⟨a,b⟩ p n).1.lo,.int .i64 (W.reckoned ⟨a,b⟩ p n).1.hi],.bool (W.reckoned ⟨a,b⟩ p n).2]):=by
 have eR:Ret Tryz.prog 20 [.agg [.int .i64 a,.int .i64 b]] (·=.bool (decide (a≤b))):=spRight a b
 by_cases c0:a≤0∨¬ a≤b∨n<2
 ·have e:W.reckoned ⟨a,b⟩ p n=(⟨0,0⟩,false):=if_pos c0
  rw [e]
  refine enterO tabOk (N:=52) (gs:=[]) (args:=[_,_,_]) Tryz.func189 rfl rfl rfl (nLe rfl) (fun E hE=>?_)
  conv=>whnf
  repeat' (first|((first|refine Br.pt (by assumption) ?_|refine Br.pf (by assumption) ?_|refine Br.nt (by assumption) ?_|refine Br.nf (by assumption) ?_|refine Br.pt (by omega) ?_|refine Br.ot rfl ?_|refine CallS.q (eR) rfl ?_|refine FinAt.val rfl ?_);conv=>whnf)|((first|refine Br.d (fun h=>?_) (fun h=>?_)|refine Br.n (fun h=>?_) (fun h=>?_))<;>conv=>whnf))
  all_goals first|rfl|omega
 have e:W.reckoned ⟨a,b⟩ p n=(⟨(W.divQ a p (n+1) false).1,(W.divQ b p (n-1) true).1⟩,decide ((W.divQ a p (n+1) false).2=0∧(W.divQ b p (n-1) true).2=0)):=if_neg c0
 rw [e]
 have eF:=rFloor a p (n+1) h0 h2 (by unfold W.I64;omega)
 have eC:=rCeil b p (n-1) h1 h2 (by unfold W.I64;omega)
 by_cases c1:(W.divQ a p (n+1) false).2=0
 ·by_cases c2:(W.divQ b p (n-1) true).2=0
  ·rw [decide_eq_true ⟨c1,c2⟩]
   refine enterO tabOk (N:=52) (gs:=[]) (args:=[_,_,_]) Tryz.func189 rfl rfl rfl (nLe rfl) (fun E hE=>?_)
   conv=>whnf
   repeat' ((first|refine Br.pt (by assumption) ?_|refine Br.pf (by omega) ?_|refine Br.nf (by omega) ?_|refine CallS.q (eR) rfl ?_|refine CallS.q (eF) rfl ?_|refine CallS.q (eC) rfl ?_|refine Ob.mk (by unfold W.I64 at *;omega) ?_|refine FinAt.val rfl ?_);conv=>whnf)
   all_goals first|rfl|omega|(simp [c1,c2,oneOr];done)
  ·rw [decide_eq_false (fun h=>c2 h.2)]
   refine enterO tabOk (N:=52) (gs:=[]) (args:=[_,_,_]) Tryz.func189 rfl rfl rfl (nLe rfl) (fun E hE=>?_)
   conv=>whnf
   repeat' ((first|refine Br.pt (by assumption) ?_|refine Br.pf (by omega) ?_|refine Br.nf (by omega) ?_|refine CallS.q (eR) rfl ?_|refine CallS.q (eF) rfl ?_|refine CallS.q (eC) rfl ?_|refine Ob.mk (by unfold W.I64 at *;omega) ?_|refine FinAt.val rfl ?_);conv=>whnf)
   all_goals first|rfl|omega|(simp [c1,c2,oneOr];done)
 ·rw [decide_eq_false (fun h=>c1 h.1)]
  refine enterO tabOk (N:=52) (gs:=[]) (args:=[_,_,_]) Tryz.func189 rfl rfl rfl (nLe rfl) (fun E hE=>?_)
  conv=>whnf
  repeat' ((first|refine Br.pf (by assumption) ?_|refine Br.pf (by omega) ?_|refine Br.nf (by omega) ?_|refine CallS.q (eR) rfl ?_|refine CallS.q (eF) rfl ?_|refine CallS.q (eC) rfl ?_|refine Ob.mk (by unfold W.I64 at *;omega) ?_|refine FinAt.val rfl ?_);conv=>whnf)
  all_goals first|rfl|omega|(simp [c1,oneOr];done)
theorem learn(x y a b p n:Int)(h0:W.I64 x)(h1:W.I64 y)(h2:W.I64 a)(h3:W.I64 b)(h4:W.I64 p)(h5:-4611686018427387904<n)(h6:n≤4611686018427387904):Ret Tryz.prog 150 [.agg [.int .i64 x,.int .i64 y],.agg [.int .i64 a,.int .i64 b],.int .i64 (p),.int .i64 (n)] (·=.tup [.agg [.int .i64 (W.learnB ⟨x,y⟩ ⟨a,b⟩ p n).1.lo,.int .i64 (W.learnB ⟨x,y⟩ ⟨a,b⟩ p n).1.hi],.bool (W.learnB ⟨x,y⟩ ⟨a,b⟩ p n).2]):=by
 have eM:∀ c d:Int,Ret Tryz.prog 133 [.agg [.int .i64 x,.int .i64 y],.agg [.int .i64 c,.int .i64 d]] _:=fun c d=>spMeet x y c d
 by_cases c0:n<0
 ·have eS:Ret Tryz.prog 149 [.agg [.int .i64 0,.int .i64 0],.agg [.int .i64 a,.int .i64 b]] _:=spSub 0 0 a b (by decide) (by decide) h2 h3
  have hi:=W.sub_i ⟨0,0⟩ ⟨a,b⟩
  have eK:=reckoned (W.Sp.sub ⟨0,0⟩ ⟨a,b⟩).1.lo (W.Sp.sub ⟨0,0⟩ ⟨a,b⟩).1.hi p (-n) hi.1 hi.2 h4 (by omega) (by omega)
  unfold W.learnB
  rw [if_pos ⟨c0,h5⟩]
  dsimp only
  have et:(⟨(W.Sp.sub ⟨0,0⟩ ⟨a,b⟩).1.lo,(W.Sp.sub ⟨0,0⟩ ⟨a,b⟩).1.hi⟩:W.Sp)=(W.Sp.sub ⟨0,0⟩ ⟨a,b⟩).1:=rfl
  rw [et] at eK
  cases c1:(W.Sp.sub ⟨0,0⟩ ⟨a,b⟩).2 with
  |false =>
   rw [c1] at eS
   rw [if_neg (by simp)]
   refine enterO tabOk (N:=53) (gs:=[]) (args:=[_,_,_,_]) Tryz.func150 rfl rfl rfl (nLe rfl) (fun E hE=>?_)
   conv=>whnf
   repeat' ((first|refine Br.pt (by assumption) ?_|refine Br.ot rfl ?_|refine CallS.q (eS) rfl ?_|refine FinAt.val rfl ?_);conv=>whnf)
   all_goals first|rfl|omega
  |true =>
   rw [c1] at eS
   rw [if_pos rfl]
   cases c2:(W.reckoned (W.Sp.sub ⟨0,0⟩ ⟨a,b⟩).1 p (-n)).2 with
   |false =>
    rw [c2] at eK
    rw [if_neg (by simp)]
    refine enterO tabOk (N:=53) (gs:=[]) (args:=[_,_,_,_]) Tryz.func150 rfl rfl rfl (nLe rfl) (fun E hE=>?_)
    conv=>whnf
    repeat' ((first|refine Br.pt (by assumption) ?_|refine Br.ot rfl ?_|refine Br.of rfl ?_|refine CallS.q (eS) rfl ?_|refine CallS.q (eK) rfl ?_|refine Ob.mk (by unfold W.I64 at *;omega) ?_|refine FinAt.val rfl ?_);conv=>whnf)
    all_goals first|rfl|omega
   |true =>
    rw [c2] at eK
    rw [if_pos rfl]
    have eM':=eM (W.reckoned (W.Sp.sub ⟨0,0⟩ ⟨a,b⟩).1 p (-n)).1.lo (W.reckoned (W.Sp.sub ⟨0,0⟩ ⟨a,b⟩).1 p (-n)).1.hi
    have et2:(⟨(W.reckoned (W.Sp.sub ⟨0,0⟩ ⟨a,b⟩).1 p (-n)).1.lo,(W.reckoned (W.Sp.sub ⟨0,0⟩ ⟨a,b⟩).1 p (-n)).1.hi⟩:W.Sp)=(W.reckoned (W.Sp.sub ⟨0,0⟩ ⟨a,b⟩).1 p (-n)).1:=rfl
    rw [et2] at eM'
    cases c3:(W.Sp.meet ⟨x,y⟩ (W.reckoned (W.Sp.sub ⟨0,0⟩ ⟨a,b⟩).1 p (-n)).1).2 with
    |false =>
     rw [c3] at eM'
     rw [if_neg (by simp)]
     refine enterO tabOk (N:=53) (gs:=[]) (args:=[_,_,_,_]) Tryz.func150 rfl rfl rfl (nLe rfl) (fun E hE=>?_)
     conv=>whnf
     repeat' ((first|refine Br.pt (by assumption) ?_|refine Br.ot rfl ?_|refine Br.of rfl ?_|refine CallS.q (eS) rfl ?_|refine CallS.q (eK) rfl ?_|refine CallS.q (eM') rfl ?_|refine Ob.mk (by unfold W.I64 at *;omega) ?_|refine FinAt.val rfl ?_);conv=>whnf)
     all_goals first|rfl|omega
    |true =>
     rw [c3] at eM'
     rw [if_pos rfl]
     refine enterO tabOk (N:=53) (gs:=[]) (args:=[_,_,_,_]) Tryz.func150 rfl rfl rfl (nLe rfl) (fun E hE=>?_)
     conv=>whnf
     repeat' ((first|refine Br.pt (by assumption) ?_|refine Br.of rfl ?_|refine CallS.q (eS) rfl ?_|refine CallS.q (eK) rfl ?_|refine CallS.q (eM') rfl ?_|refine Ob.mk (by unfold W.I64 at *;omega) ?_|refine FinAt.val rfl ?_);conv=>whnf)
     all_goals first|rfl|omega
 ·have eK:=reckoned a b p n h2 h3 h4 (by omega) h6
  unfold W.learnB
  rw [if_neg (fun h=>c0 h.1)]
  dsimp only
  cases c2:(W.reckoned ⟨a,b⟩ p n).2 with
  |false =>
   rw [c2] at eK
   rw [if_neg (by simp)]
   refine enterO tabOk (N:=53) (gs:=[]) (args:=[_,_,_,_]) Tryz.func150 rfl rfl rfl (nLe rfl) (fun E hE=>?_)
   conv=>whnf
   repeat' ((first|refine Br.pf (by assumption) ?_|refine Br.ot rfl ?_|refine Br.of rfl ?_|refine CallS.q (eK) rfl ?_|refine FinAt.val rfl ?_);conv=>whnf)
   all_goals first|rfl|omega
  |true =>
   rw [c2] at eK
   rw [if_pos rfl]
   have eM':=eM (W.reckoned ⟨a,b⟩ p n).1.lo (W.reckoned ⟨a,b⟩ p n).1.hi
   have et2:(⟨(W.reckoned ⟨a,b⟩ p n).1.lo,(W.reckoned ⟨a,b⟩ p n).1.hi⟩:W.Sp)=(W.reckoned ⟨a,b⟩ p n).1:=rfl
   rw [et2] at eM'
   cases c3:(W.Sp.meet ⟨x,y⟩ (W.reckoned ⟨a,b⟩ p n).1).2 with
   |false =>
    rw [c3] at eM'
    rw [if_neg (by simp)]
    refine enterO tabOk (N:=53) (gs:=[]) (args:=[_,_,_,_]) Tryz.func150 rfl rfl rfl (nLe rfl) (fun E hE=>?_)
    conv=>whnf
    repeat' ((first|refine Br.pf (by assumption) ?_|refine Br.ot rfl ?_|refine Br.of rfl ?_|refine CallS.q (eK) rfl ?_|refine CallS.q (eM') rfl ?_|refine FinAt.val rfl ?_);conv=>whnf)
    all_goals first|rfl|omega
   |true =>
    rw [c3] at eM'
    rw [if_pos rfl]
    refine enterO tabOk (N:=53) (gs:=[]) (args:=[_,_,_,_]) Tryz.func150 rfl rfl rfl (nLe rfl) (fun E hE=>?_)
    conv=>whnf
    repeat' ((first|refine Br.pf (by assumption) ?_|refine Br.of rfl ?_|refine CallS.q (eK) rfl ?_|refine CallS.q (eM') rfl ?_|refine FinAt.val rfl ?_);conv=>whnf)
    all_goals first|rfl|omega
theorem wcount(n m:Int)(more:Bool)(h0:0≤n)(h1:n≤1000000)(h2:0≤m)(h3:m≤1000000):Ret Tryz.prog 103 [.int .i64 (n),.int .i64 (m),.bool more] (·=.int .i64 (W.wcount n m more)):=by
 cases more with
 |false =>
  refine enterO tabOk (N:=13) (gs:=[]) (args:=[_,_,_]) Tryz.func103 rfl rfl rfl (nLe rfl) (fun E hE=>?_)
  conv=>whnf
  repeat' ((first|refine Br.ot rfl ?_|refine FinAt.val rfl ?_);conv=>whnf)
  all_goals rfl
 |true =>
  refine enterO tabOk (N:=13) (gs:=[]) (args:=[_,_,_]) Tryz.func103 rfl rfl rfl (nLe rfl) (fun E hE=>?_)
  conv=>whnf
  repeat' ((first|refine Br.of rfl ?_|refine Ob.mk (by unfold W.I64 at *;omega) ?_|refine FinAt.val rfl ?_);conv=>whnf)
  all_goals rfl
theorem slow(g:W.Conf)(a b:Int)(h0:0≤g.stillSpeed)(h1:g.stillSpeed≤16777216):Ret Tryz.prog 104 [.agg (confC g),.agg [.int .i64 a,.int .i64 b]] (·=.bool (W.slow g ⟨a,b⟩)):=by
 have e:Ret Tryz.prog 139 [.agg [.int .i64 a,.int .i64 b],.agg [.int .i64 (-g.stillSpeed),.int .i64 g.stillSpeed]] _:=spIn _ _ _ _
 refine enterO tabOk (N:=13) (gs:=[]) (args:=[_,_]) Tryz.func104 rfl rfl rfl (nLe rfl) (fun E hE=>?_)
 conv=>whnf
 repeat' ((first|refine CallS.q (e) rfl ?_|refine Ob.mk (by unfold W.I64 at *;omega) ?_|refine FinAt.val rfl ?_);conv=>whnf)
 all_goals rfl
theorem stNext(n:Int)(o:Bool)(g:W.Conf)(a b f:Int)(h0:0≤g.stillSpeed)(h1:g.stillSpeed≤16777216)(h2:0≤n)(h3:n≤1000000)(h4:0≤g.still)(h5:g.still≤1000000):Ret Tryz.prog 60 [.agg [.int .i64 n,.bool o],.agg (confC g),.agg [.int .i64 a,.int .i64 b],.int .i64 (f)] (·=.agg [.int .i64 (W.Still.next ⟨n,o⟩ g ⟨a,b⟩ f).count,.bool (W.Still.next ⟨n,o⟩ g ⟨a,b⟩ f).on]):=by
 have eS:=slow g a b h0 h1
 cases c0:W.slow g ⟨a,b⟩ with
 |false =>
  rw [c0] at eS
  have e:W.Still.next ⟨n,o⟩ g ⟨a,b⟩ f=⟨0,false⟩:=if_pos (.inr c0)
  rw [e]
  refine enterO tabOk (N:=31) (gs:=[]) (args:=[_,_,_,_]) Tryz.func60 rfl rfl rfl (nLe rfl) (fun E hE=>?_)
  conv=>whnf
  repeat' (first|((first|refine Br.pt (by assumption) ?_|refine Br.pf (by assumption) ?_|refine Br.ot rfl ?_|refine CallS.q (eS) rfl ?_|refine FinAt.val rfl ?_);conv=>whnf)|((refine Br.d (fun h=>?_) (fun h=>?_))<;>conv=>whnf))
  all_goals rfl
 |true =>
  rw [c0] at eS
  by_cases c1:f<1
  ·have e:W.Still.next ⟨n,o⟩ g ⟨a,b⟩ f=⟨0,false⟩:=if_pos (.inl c1)
   rw [e]
   refine enterO tabOk (N:=31) (gs:=[]) (args:=[_,_,_,_]) Tryz.func60 rfl rfl rfl (nLe rfl) (fun E hE=>?_)
   conv=>whnf
   repeat' ((first|refine Br.pt (by assumption) ?_|refine Br.ot rfl ?_|refine FinAt.val rfl ?_);conv=>whnf)
   all_goals first|rfl|omega
  ·have e:W.Still.next ⟨n,o⟩ g ⟨a,b⟩ f=⟨min (n+1) g.still,decide (g.still≤min (n+1) g.still)⟩:=if_neg (by rw [c0];simp;omega)
   rw [e]
   refine enterO tabOk (N:=31) (gs:=[]) (args:=[_,_,_,_]) Tryz.func60 rfl rfl rfl (nLe rfl) (fun E hE=>?_)
   conv=>whnf
   repeat' ((first|refine Br.pf (by assumption) ?_|refine Br.of rfl ?_|refine CallS.q (eS) rfl ?_|refine Ob.mk (by unfold W.I64 at *;omega) ?_|refine FinAt.val rfl ?_);conv=>whnf)
   all_goals first|rfl|omega
theorem roNext(x y:Bool)(a b:Int)(g:W.Conf)(st cm:Bool)(d q:Int)(h0:0≤g.roll)(h1:g.roll≤1073741824)(h2:W.I64 a)(h3:W.I64 b)(h4:W.I64 d)(h5:W.I64 q):Ret Tryz.prog 61 [.agg [.bool x,.bool y,.int .i64 a,.int .i64 b],.agg (confC g),.bool st,.bool cm,.agg [.int .i64 d,.int .i64 q]] (·=.agg [.bool (W.Roll.next ⟨x,y,⟨a,b⟩⟩ g st cm ⟨d,q⟩).1,.bool (W.Roll.next ⟨x,y,⟨a,b⟩⟩ g st cm ⟨d,q⟩).2,.int .i64 (W.Roll.next ⟨x,y,⟨a,b⟩⟩ g st cm ⟨d,q⟩).3.lo,.int .i64 (W.Roll.next ⟨x,y,⟨a,b⟩⟩ g st cm ⟨d,q⟩).3.hi]):=by
 cases cm with
 |true =>
  refine enterO tabOk (N:=53) (gs:=[]) (args:=[_,_,_,_,_]) Tryz.func61 rfl rfl rfl (nLe rfl) (fun E hE=>?_)
  conv=>whnf
  repeat' ((first|refine Br.ot rfl ?_|refine FinAt.val rfl ?_);conv=>whnf)
  all_goals rfl
 |false =>
  cases x with
  |false =>
   refine enterO tabOk (N:=53) (gs:=[]) (args:=[_,_,_,_,_]) Tryz.func61 rfl rfl rfl (nLe rfl) (fun E hE=>?_)
   conv=>whnf
   repeat' ((first|refine Br.ot rfl ?_|refine Br.of rfl ?_|refine FinAt.val rfl ?_);conv=>whnf)
   all_goals rfl
  |true =>
   have eA:=spAdd a b d q h2 h3 h4 h5
   cases c1:(W.Sp.add ⟨a,b⟩ ⟨d,q⟩).2 with
   |false =>
    rw [c1] at eA
    have e:W.Roll.next ⟨true,y,⟨a,b⟩⟩ g st false ⟨d,q⟩=⟨true,y||decide (g.roll<a)||decide (b < -g.roll),⟨a,b⟩⟩:=by
     unfold W.Roll.next
     simp only [c1]
     rfl
    rw [e]
    by_cases q1:g.roll<a<;>by_cases q2:b < -g.roll<;>cases y
    all_goals
     refine enterO tabOk (N:=53) (gs:=[]) (args:=[_,_,_,_,_]) Tryz.func61 rfl rfl rfl (nLe rfl) (fun E hE=>?_)
     conv=>whnf
     repeat' ((first|refine Br.pt (by assumption) ?_|refine Br.pf (by assumption) ?_|refine Br.ot rfl ?_|refine Br.of rfl ?_|refine CallS.q (eA) rfl ?_|refine Ob.mk (by unfold W.I64 at *;omega) ?_|refine FinAt.val rfl ?_);conv=>whnf)
     all_goals first|(simp_all [oneOr];done)|(simp [oneOr,q1,q2];done)|(simp_all [oneOr];omega)
   |true =>
    rw [c1] at eA
    have e:W.Roll.next ⟨true,y,⟨a,b⟩⟩ g st false ⟨d,q⟩=⟨true,y||decide (g.roll<(W.Sp.add ⟨a,b⟩ ⟨d,q⟩).1.lo)||decide ((W.Sp.add ⟨a,b⟩ ⟨d,q⟩).1.hi < -g.roll),(W.Sp.add ⟨a,b⟩ ⟨d,q⟩).1⟩:=by
     unfold W.Roll.next
     simp only [c1]
     rfl
    rw [e]
    by_cases q1:g.roll<(W.Sp.add ⟨a,b⟩ ⟨d,q⟩).1.lo<;>by_cases q2:(W.Sp.add ⟨a,b⟩ ⟨d,q⟩).1.hi < -g.roll<;>cases y
    all_goals
     refine enterO tabOk (N:=53) (gs:=[]) (args:=[_,_,_,_,_]) Tryz.func61 rfl rfl rfl (nLe rfl) (fun E hE=>?_)
     conv=>whnf
     repeat' ((first|refine Br.pt (by assumption) ?_|refine Br.pf (by assumption) ?_|refine Br.ot rfl ?_|refine Br.of rfl ?_|refine CallS.q (eA) rfl ?_|refine Ob.mk (by unfold W.I64 at *;omega) ?_|refine FinAt.val rfl ?_);conv=>whnf)
     all_goals first|(simp_all [oneOr];done)|(simp [oneOr,q1,q2];done)|(simp_all [oneOr];omega)
theorem waNext(s t:Int)(f:Bool)(g:W.Conf)(n:Int)(cf ov ac:Bool)(h0:0≤s)(h1:s≤1001)(h2:0≤t)(h3:t≤1001)(h4:0≤g.timeout)(h5:g.timeout≤1000):Ret Tryz.prog 59 [.agg [.int .i64 s,.int .i64 t,.bool f],.agg (confC g),.int .i64 (n),.bool cf,.bool ov,.bool ac] (·=.agg [.int .i64 (W.Watch.next ⟨s,t,f⟩ g n cf ov ac).1,.int .i64 (W.Watch.next ⟨s,t,f⟩ g n cf ov ac).2,.bool (W.Watch.next ⟨s,t,f⟩ g n cf ov ac).3]):=by
 have e1:=wcount s (g.timeout+1) (decide (n<1)) h0 (by omega) (by omega) (by omega)
 have e2:=wcount t (g.timeout+1) cf h2 (by omega) (by omega) (by omega)
 have e:W.Watch.next ⟨s,t,f⟩ g n cf ov ac=⟨W.wcount s (g.timeout+1) (decide (n<1)),W.wcount t (g.timeout+1) cf,(ov||decide (g.timeout<W.wcount s (g.timeout+1) (decide (n<1)))||decide (g.timeout<W.wcount t (g.timeout+1) cf))||(f && !ac)⟩:=rfl
 rw [e]
 generalize W.wcount s (g.timeout+1) (decide (n<1))=x at *
 generalize W.wcount t (g.timeout+1) cf=y at *
 cases ov<;>cases f<;>cases ac<;>by_cases c1:g.timeout<x<;>by_cases c2:g.timeout<y
 all_goals
  refine enterO tabOk (N:=57) (gs:=[]) (args:=[_,_,_,_,_,_]) Tryz.func59 rfl rfl rfl (nLe rfl) (fun E hE=>?_)
  conv=>whnf
  repeat' ((first|refine Br.pt (by assumption) ?_|refine Br.pf (by assumption) ?_|refine Br.ot rfl ?_|refine Br.of rfl ?_|refine CallS.q (e1) rfl ?_|refine CallS.q (e2) rfl ?_|refine Ob.mk (by unfold W.I64 at *;omega) ?_|refine FinAt.val rfl ?_);conv=>whnf)
  all_goals first|(simp_all [oneOr];done)|omega
theorem waMode(s t:Int)(f:Bool)(on:Bool)(n:Int)(cf:Bool) :Ret Tryz.prog 106 [.agg [.int .i64 s,.int .i64 t,.bool f],.bool on,.int .i64 (n),.bool cf] (·=.int .i64 (W.Watch.mode ⟨s,t,f⟩ on n cf)):=by
 cases f<;>cases on<;>cases cf<;>by_cases c0:n<2
 all_goals
  refine enterO tabOk (N:=21) (gs:=[]) (args:=[_,_,_,_]) Tryz.func106 rfl rfl rfl (nLe rfl) (fun E hE=>?_)
  conv=>whnf
  repeat' ((first|refine Br.pt (by assumption) ?_|refine Br.pf (by assumption) ?_|refine Br.ot rfl ?_|refine Br.of rfl ?_|refine FinAt.val rfl ?_);conv=>whnf)
  all_goals first|rfl|omega|(simp_all [W.Watch.mode,oneOr];done)|(simp_all [W.Watch.mode,oneOr];omega)
end Y
end
namespace Y
open Go Go.RowKit Go.Sort
abbrev mlC(m:Ml.M):List AV:=[.bool (m.has 0),.bool (m.has 1),.bool (m.has 2),.bool (m.has 3),.bool (m.has 4),.bool (m.has 5),I (m.val 0),I (m.val 1),I (m.val 2),I (m.val 3),I (m.val 4),I (m.val 5),I m.bad,I m.stale,I m.twice,I m.beyond]
theorem of_(m:Ml.M)(k:Nat)(h0:1≤k)(h1:k≤5):Ret Tryz.prog 98 [.agg (mlC m),I k] (·=.tup [I (m.val k),.bool (m.has k)]):=by
 obtain rfl|rfl|rfl|rfl|rfl:k=1∨k=2∨k=3∨k=4∨k=5:=by omega
 all_goals
  refine enterO tabOk (N:=20) (gs:=[]) (args:=[_,_]) Tryz.func98 rfl rfl rfl (nLe rfl) (fun E hE=>?_)
  conv=>whnf
  repeat' ((first|refine Br.pf (by omega) ?_|refine Ob.mk (by omega) ?_|refine Drw.loose (by kernel_rfl) ?_|refine Ix.of 1 rfl ?_|refine Ix.nat _ ?_|refine Pc.lit ?_|refine FinAt.val rfl ?_);conv=>whnf)
  rfl
abbrev plC(p:W.Place):List AV:=[.bool p.on,I p.group,I p.pos.lo,I p.pos.hi,I p.est,I p.set.from_,rtsV p.set.list]
abbrev navC(n:W.Nav):List AV:=[I n.c.pulses,I n.c.circLo,I n.c.circHi,I n.c.radBase,I n.c.radPart,I n.c.accErr,I n.c.maxSpeed,I n.c.maxAccel,I n.c.antenna,I n.c.still,I n.c.stillSpeed,I n.c.roll,I n.c.timeout,I n.c.brake,
 sgsV n.t.segs,gpsV n.t.grps,.bool n.broken,I n.cycle,I n.grades.lo,I n.grades.hi,isV n.ends,.bool n.k0.known,.int .u16 n.k0.last,I n.k0.sum,.bool n.k1.known,.int .u16 n.k1.last,I n.k1.sum,I n.circ0.lo,I n.circ0.hi,I n.circ1.lo,I n.circ1.hi,I n.speed.lo,I n.speed.hi,I n.dist,
 .bool n.place.on,I n.place.group,I n.place.pos.lo,I n.place.pos.hi,I n.place.est,I n.place.set.from_,rtsV n.place.set.list,.bool n.clean,I n.origin.lo,I n.origin.hi,I n.sum0,I n.sum1,I n.still.count,.bool n.still.on,.bool n.roll.anchored,.bool n.roll.on,I n.roll.moved.lo,I n.roll.moved.hi,I n.watch.silent,I n.watch.strife,.bool n.watch.failed]
structure CtOk(k:W.Counter):Prop where
 l0:0≤k.last
 l1:k.last<65536
 sum:W.I64 k.sum
theorem next_i64{k:W.Counter}{v:Int}{h:Bool}(hk:CtOk k):W.I64 (k.next v h).2.1:=by
 have:=hk.l0
 have:=hk.l1
 unfold W.Counter.next W.delta W.I64
 split<;>(try split)<;>dsimp only<;>omega
theorem tacho0(n:W.Nav)(m:Ml.M)(hk:CtOk n.k0)(hc:SpI n.circ0)(hp:W.I64 n.c.pulses)(hv:W.I64 (m.val 1)):RetO Tryz.prog 89 [.blk (navC n)] [.own 0 0,I 0,.agg (mlC m)] (fun r gs'=>r=.agg (snC (W.tachoSensor n.circ0 n.c.pulses (n.k0.next (m.val 1) (m.has 1))))∧gs'=[.blk (navC { n with k0:=(n.k0.next (m.val 1) (m.has 1)).1 })]):=by
 refine enterO tabOk (N:=61) (gs:=[_]) (args:=[_,_,_]) Tryz.func89 rfl rfl rfl (nLe rfl) (fun E hE=>?_)
 conv=>whnf
 repeat' (first|((first|(refine Drw.len 19 17 rfl rfl ?_;refine Drw.allocM tabOk [0,1,2,3,4,5,6,7,8,9,10,11,12,13,14,16,15] [0,1,2,3,4,5,6,7,8,9,10,11,12,13,14,16] [[],[15]] [17,18] 16 (by kernel_rfl) (by kernel_rfl) (by kernel_rfl) (by kernel_rfl) rfl (by simp [hE]) ?_)|refine CallS.q (of_ m 1 (by omega) (by omega)) rfl ?_|refine CallS.q (ctNext _ _ _ _ _ hk.l0 hk.l1 hk.sum hv) rfl ?_|refine CallD.pu (tacho _ _ _ _ (next_i64 hk) hc.1 hc.2 hp) rfl ?_|refine Ob.mk (by omega) ?_|refine Ob.mk (by unfold W.I64 at *;omega) ?_|refine Drw.loose (by kernel_rfl) ?_|refine Ix.of 0 rfl ?_|refine Pc.lit ?_);conv=>whnf)|((first|refine Br.mk (fun h=>?_) (fun h=>?_)|refine Both.mk ?_ ?_)<;>conv=>whnf))
 all_goals
  refine FinAt.asis (ars:=[.agg (snC (W.tachoSensor n.circ0 n.c.pulses (n.k0.next (m.val 1) (m.has 1))))]) [] (RvL.cons ?_ RvL.nil) (by simp) (by simp) rfl ⟨rfl,rfl⟩
  unfold W.tachoSensor
  first|rw [if_pos (show (n.k0.next (m.val 1) (m.has 1)).2.2=true by simpa using h)]|rw [if_neg (show ¬ (n.k0.next (m.val 1) (m.has 1)).2.2=true by simpa using h)]
  exact Rv.pu rfl
theorem tacho1(n:W.Nav)(m:Ml.M)(hk:CtOk n.k1)(hc:SpI n.circ1)(hp:W.I64 n.c.pulses)(hv:W.I64 (m.val 2)):RetO Tryz.prog 89 [.blk (navC n)] [.own 0 0,I 1,.agg (mlC m)] (fun r gs'=>r=.agg (snC (W.tachoSensor n.circ1 n.c.pulses (n.k1.next (m.val 2) (m.has 2))))∧gs'=[.blk (navC { n with k1:=(n.k1.next (m.val 2) (m.has 2)).1 })]):=by
 refine enterO tabOk (N:=61) (gs:=[_]) (args:=[_,_,_]) Tryz.func89 rfl rfl rfl (nLe rfl) (fun E hE=>?_)
 conv=>whnf
 repeat' (first|((first|(refine Drw.len 19 17 rfl rfl ?_;refine Drw.allocM tabOk [0,1,2,3,4,5,6,7,8,9,10,11,12,13,14,16,15] [0,1,2,3,4,5,6,7,8,9,10,11,12,13,14,16] [[],[15]] [17,18] 16 (by kernel_rfl) (by kernel_rfl) (by kernel_rfl) (by kernel_rfl) rfl (by simp [hE]) ?_)|refine CallS.q (of_ m 2 (by omega) (by omega)) rfl ?_|refine CallS.q (ctNext _ _ _ _ _ hk.l0 hk.l1 hk.sum hv) rfl ?_|refine CallD.pu (tacho _ _ _ _ (next_i64 hk) hc.1 hc.2 hp) rfl ?_|refine Ob.mk (by omega) ?_|refine Ob.mk (by unfold W.I64 at *;omega) ?_|refine Drw.loose (by kernel_rfl) ?_|refine Ix.of 1 rfl ?_|refine Pc.lit ?_);conv=>whnf)|((first|refine Br.mk (fun h=>?_) (fun h=>?_)|refine Both.mk ?_ ?_)<;>conv=>whnf))
 all_goals
  refine FinAt.asis (ars:=[.agg (snC (W.tachoSensor n.circ1 n.c.pulses (n.k1.next (m.val 2) (m.has 2))))]) [] (RvL.cons ?_ RvL.nil) (by simp) (by simp) rfl ⟨rfl,rfl⟩
  unfold W.tachoSensor
  first|rw [if_pos (show (n.k1.next (m.val 2) (m.has 2)).2.2=true by simpa using h)]|rw [if_neg (show ¬ (n.k1.next (m.val 2) (m.has 2)).2.2=true by simpa using h)]
  exact Rv.pu rfl
theorem radar_(n:W.Nav)(m:Ml.M)(h0:0≤n.c.radBase)(h1:n.c.radBase≤1048576)(h2:0≤n.c.radPart)(h3:n.c.radPart≤65536)(h4:-4294967296≤m.val 3)(h5:m.val 3≤4294967296):RetO Tryz.prog 90 [.blk (navC n)] [.own 0 0,.agg (mlC m)] (fun r gs'=>r=.agg (snC (n.radarS m))∧gs'=[.blk (navC n)]):=by
 refine enterO tabOk (N:=22) (gs:=[_]) (args:=[_,_]) Tryz.func90 rfl rfl rfl (nLe rfl) (fun E hE=>?_)
 conv=>whnf
 repeat' (first|((first|refine CallS.q (of_ m 3 (by omega) (by omega)) rfl ?_|refine CallS.q (radar n.c _ h0 h1 h2 h3 h4 h5) rfl ?_);conv=>whnf)|((refine Br.mk (fun h=>?_) (fun h=>?_))<;>conv=>whnf))
 all_goals
  refine FinAt.asis (ars:=[.agg (snC (n.radarS m))]) [] (RvL.cons ?_ RvL.nil) (by simp) (by simp) rfl ⟨rfl,rfl⟩
  unfold W.Nav.radarS
  first|rw [if_pos (show m.has 3=true by simpa using h)]|rw [if_neg (show ¬ m.has 3=true by simpa using h)]
  exact Rv.pu rfl
def PLen(t:W.Trk):Prop:=∀ i,i<t.segs.length→(t.segs.getD i default).pieces.length≤64
theorem meet_in{p:W.Sp}{a b:Int}(h:(p.meet ⟨a,b⟩).2=true):a≤(p.meet ⟨a,b⟩).1.lo∧(p.meet ⟨a,b⟩).1.lo≤b∧a≤(p.meet ⟨a,b⟩).1.hi∧(p.meet ⟨a,b⟩).1.hi≤b:=by
 unfold W.Sp.meet W.both at h ⊢
 split at h<;>simp_all
 all_goals omega
theorem gradesC(p:W.Sp)(t:W.Trk)(ht:TLen t)(hpl:PLen t)(st:W.Sp×Bool)(k:Nat)(at_:Int)(h1:k<t.segs.length)(h2:-1099511627776≤at_)(h3:at_≤13194139533312) :
  RetO Tryz.prog 195 [.blk ([I p.lo,I p.hi]),.blk ([sgsV t.segs,gpsV t.grps]),.blk ([.bool st.2]),.blk ([I st.1.lo,I st.1.hi])] [I k,I at_,.own 0 0,.own 1 0,.own 2 0,.own 3 0] (fun r gs'=>r=.tup []∧gs'=[.blk ([I p.lo,I p.hi]),.blk ([sgsV t.segs,gpsV t.grps]),.blk ([.bool (W.gradeStep t p st (k,at_)).2]),.blk ([I (W.gradeStep t p st (k,at_)).1.lo,I (W.gradeStep t p st (k,at_)).1.hi])]):=by
 have hl:=ht k h1
 have hp:=hpl k h1
 obtain⟨⟨sl,sh⟩,sb⟩:=st
 refine enterO tabOk (N:=54) (gs:=[_,_,_,_]) (args:=[_,_,_,_,_,_]) Tryz.func195 rfl rfl rfl (nLe rfl) (fun E hE=>?_)
 obtain⟨o,ho⟩:∃ o,o=W.Sp.meet ⟨p.lo,p.hi⟩ ⟨at_,at_+(t.segs.getD k default).length⟩:=⟨_,rfl⟩
 have hin:o.2=true→at_≤o.1.lo∧o.1.lo≤at_+(t.segs.getD k default).length∧at_≤o.1.hi∧o.1.hi≤at_+(t.segs.getD k default).length:=fun h=>by subst ho;exact meet_in h
 obtain⟨⟨ol,oh⟩,ob⟩:=o
 have hmt:=spMeet p.lo p.hi at_ (at_+(t.segs.getD k default).length)
 rw [← ho] at hmt
 have hmt:Ret Tryz.prog 133 [.agg [I p.lo,I p.hi],.agg [I at_,I (at_+(t.segs.getD k default).length)]] (·=.tup [.agg [I ol,I oh],.bool ob]):=hmt
 have hst:W.gradeStep t p (⟨sl,sh⟩,sb) (k,at_)=if ob then ((if sb then (⟨sl,sh⟩:W.Sp) else (W.bounds (t.segs.getD k default).pieces ⟨ol-at_,oh-at_⟩).1).hull (W.bounds (t.segs.getD k default).pieces ⟨ol-at_,oh-at_⟩).1,true) else (⟨sl,sh⟩,sb):=by
  unfold W.gradeStep
  rw [show W.Sp.meet p ⟨((k:Int),at_).2,((k:Int),at_).2+t.len ((k:Int),at_).1⟩=_ from ho.symm]
  rfl
 rw [hst]
 clear hst ho
 cases ob
 ·conv=>whnf
  repeat' (first|((first|(refine Drw.len 18 16 rfl rfl ?_;refine Drw.allocM tabOk [0,1,2,3,4,5,6,7,8,9,10,11,12,13,15,14] [0,1,2,3,4,5,6,7,8,9,10,11,12,13,15] [[],[14]] [16,17] 15 (by kernel_rfl) (by kernel_rfl) (by kernel_rfl) (by kernel_rfl) rfl (by simp [hE]) ?_)|refine Br.ot rfl ?_|refine CallD.pu (hmt) rfl ?_|refine Ob.mk (by omega) ?_|refine Ob.mk (by unfold W.I64 at *;omega) ?_|refine Ix.nat _ ?_);conv=>whnf)|((refine Both.mk ?_ ?_)<;>conv=>whnf))
  all_goals refine FinAt.asis (ars:=[]) [] RvL.nil (by simp) (by show 4≤_;simp) rfl ⟨rfl,rfl⟩
 ·have hin:=hin rfl
  dsimp only at hin
  cases sb
  all_goals
   conv=>whnf
   repeat' (first|((first|(refine Drw.len 18 16 rfl rfl ?_;refine Drw.allocM tabOk [0,1,2,3,4,5,6,7,8,9,10,11,12,13,15,14] [0,1,2,3,4,5,6,7,8,9,10,11,12,13,15] [[],[14]] [16,17] 15 (by kernel_rfl) (by kernel_rfl) (by kernel_rfl) (by kernel_rfl) rfl (by simp [hE]) ?_)|(refine Drw.len 22 20 rfl rfl ?_;refine Drw.allocM tabOk [0,1,2,3,4,5,6,7,8,9,10,11,12,13,14,15,16,17,19,18] [0,1,2,3,4,5,6,7,8,9,10,11,12,13,14,15,16,17,19] [[],[18]] [20,21] 19 (by kernel_rfl) (by kernel_rfl) (by kernel_rfl) (by kernel_rfl) rfl (by simp [hE]) ?_)|refine Br.ot rfl ?_|refine Br.of rfl ?_|refine CallS.q (spHull _ _ _ _) rfl ?_|refine CallD.pu (hmt) rfl ?_|refine CallD.pu (gradeBounds _ _ _ (by omega)) rfl ?_|refine Ob.mk (by omega) ?_|refine Ob.mk (by unfold W.I64 at *;omega) ?_|refine Ix.nat _ ?_);conv=>whnf)|((refine Both.mk ?_ ?_)<;>conv=>whnf))
   all_goals refine FinAt.asis (ars:=[]) [] RvL.nil (by simp) (by show 4≤_;simp) rfl ⟨rfl,rfl⟩
theorem R0_R{S:Nat→Prop}{n:World}{ids:List Loc}{v:AV}{V:Value}(h:R0 S n ids v V):R S n ids v V :=
 (R0L_R (l:=[v]) (vs:=[V]) ⟨h,trivial⟩).1
structure EndV(S:Nat→Prop)(w:World)(bs:List Loc)(post:AV→List OB→Prop)(e:Ending)(w':World):Prop where
 out:∃ r V gs' bs' S',e=.returned V∧post r gs'∧R0 S' w' bs' r V∧Gs S' w' bs' gs'∧Ids bs bs'∧bs'.length=bs.length∧(∀ i o L b,nth gs' i=some o→alive o=true→nth bs' i=some L→L.blk=some b→w.heap.size≤b∨∃ L0,nth bs i=some L0∧L0.blk=some b)∧(∀ b,S b→S' b)∧(∀ b,S' b→b<w.heap.size→S b)∧(∀ b,S' b→b<w'.heap.size)∧En.Fr ⟨w,bs,S⟩ w'
def RetV(P:Program)(f:Nat)(gs:List OB)(args:List AV)(post:AV→List OB→Prop):Prop :=
 ∀ S w bs Vs,Gs S w bs gs→(∀ b,S b→b<w.heap.size)→all2 (R S w bs) args Vs→Calls P f ⟨Vs⟩ w (EndV S w bs post)
structure FinV(k:Nat)(vs:List AV)(own:Ow)(post:AV→List OB→Prop):Prop where
 out:∃ r,vs=[r]∧ok0 k r=true∧pu1 r=false∧k≤own.length∧okO k (own.take k)=true∧post r (own.take k)
def endV(T:Tab)(rs:List ResultVar)(k:Nat)(post:AV→List OB→Prop)(e:Exit)(tm:Tm)(own:Ow):Prop :=
 match e with
 |.ret=>resK T tm own rs fun vs=>FinV k vs own post
 |.normal=>resK T tm own rs fun vs=>FinV k vs own post
 |_=>False
theorem okO_nth{k:Nat}:∀ (l:Ow) (j:Nat) (o:OB),okO k l=true→nth l j=some o→okO k [o]=true
 |[],j,o,_,h=>by simp [nth] at h
 |d::l,0,o,h,hj=>by simp only [nth,Option.some.injEq] at hj;subst hj;cases d<;>simp_all [okO]
 |d::l,j+1,o,h,hj=>by simp only [nth] at hj;exact okO_nth l j o (by cases d<;>simp_all [okO]) hj
theorem FinV.endV{P:Program}{N:Nat}{E:En}{tm:Tm}{own:Ow}{S:Nat→Prop}{ids:List Loc}{a:Act}{n:World}(hs:Sim N E tm own S ids a n){vs:List AV}{post:AV→List OB→Prop}(h:FinV E.gs.length vs own post){Vs:List Value}(hv:all2 (R S n ids) vs Vs) :
  EndV E.S E.w E.gs post (.returned (oneV Vs)) n:=by
 obtain⟨r,rfl,h1,h2,h3,h4,h5⟩:=h.out
 match Vs,hv with
 |[V],⟨hr,_⟩ =>
  have hle:E.gs.length≤ids.length:=by rw [hs.len];exact h3
  have hget:∀ {j:Nat} {o:OB},nth (own.take E.gs.length) j=some o→j<E.gs.length∧nth own j=some o:=fun {j o} hj=>by
   have:=nth_lt hj
   have hlt:j<E.gs.length:=by simp at this;omega
   rw [nth_take hlt] at hj
   exact⟨hlt,hj⟩
  have hid:∀ {j:Nat} {L:Loc},j<E.gs.length→nth (ids.take E.gs.length) j=some L→nth ids j=some L:=fun {j L} hj hL=>by rw [nth_take hj] at hL;exact hL
  have hr0:R0 S n ids r V:=by cases r<;>first|exact hr|cases h2
  refine⟨r,V,own.take E.gs.length,ids.take E.gs.length,S,rfl,h5,hr0.take h1,⟨by simp;omega,fun k o L hk hL=>?_,fun i j o o' L L' b hi hj ao ao' hL hL' e e'=>?_,fun i o L b hi ao hL e=>?_⟩,
   ⟨fun i b hi=>by rw [nth_take (nth_lt hi)];exact hs.pre.fix i b hi,fun i L hi hf=>by
    obtain⟨L',g1,g2⟩:=hs.pre.gro i L hi hf
    exact⟨L',by rw [nth_take (nth_lt hi)];exact g1,g2⟩⟩,by simp;omega,fun i o L b hi ao hL e=>?_,hs.snew,hs.sold,hs.slt,hs.fr⟩
  ·obtain⟨g1,g2⟩:=hget hk
   have hl:=hs.live k o L g2 (hid g1 hL)
   have hok:=okO_nth _ _ _ h4 hk
   cases o with
   |blk cs =>
    obtain⟨b,ws,e,p1,p2⟩:=hl
    simp only [okO,Bool.and_true] at hok
    exact⟨b,ws,e,R1L.take hok p1,p2⟩
   |_=>exact hl
  ·obtain⟨g1,g2⟩:=hget hi
   obtain⟨k1,k2⟩:=hget hj
   exact hs.dist i j o o' L L' b g2 k2 ao ao' (hid g1 hL) (hid k1 hL') e e'
  ·obtain⟨g1,g2⟩:=hget hi
   exact⟨(hs.noS i o L b g2 ao (hid g1 hL) e).1,(hs.noS i o L b g2 ao (hid g1 hL) e).2.1⟩
  ·obtain⟨g1,g2⟩:=hget hi
   exact(hs.noS i o L b g2 ao (hid g1 hL) e).2.2
theorem enterV{P:Program}{T:Tab}(hT:TabOk P T){f:Nat}{fn:Func}{c:Code}{N:Nat}{rs:List ResultVar}(hf:P.funcs[f]?=some fn)(hb:fn.body=some c)(hN:fn.ntmps=N)(hrs:fn.results=⟨rs⟩)
  {gs:List OB} {args:List AV} {post:AV→List OB→Prop} (hlen:args.length≤N) (h:∀ E:En,E.gs.length=gs.length→WC T P N E c (endV T rs gs.length post) (tmOf args 0) gs):RetV P f gs args post:=by
 intro S w bs Vs hG hlt hV
 refine calls_of_wp hf hb ?_
 have hs:Sim N ⟨w,bs,S⟩ (tmOf args 0) gs S bs { tmps:=⟨Vs⟩++Array.replicate (fn.ntmps-(⟨Vs⟩:Array Value).size) undef,defers:=[] } w:={
  size:=by have:=hV.len;simp [hN];omega
  defers:=rfl
  sl:=fun t v hv=>by
   obtain⟨_,h1⟩:=look_tmOf hv
   obtain⟨V,h2,h3⟩:=hV.get h1
   refine⟨V,?_,h3⟩
   have h4:t<Vs.length:=by have:=(List.getElem?_eq_some_iff.1 h2).1;omega
   rw [Array.getElem?_append_left (by simpa using h4)]
   simpa using h2
  len:=hG.len
  live:=hG.live
  dist:=hG.dist
  noS:=fun i o L b hi ha hL e=>⟨(hG.noS i o L b hi ha hL e).1,(hG.noS i o L b hi ha hL e).2,.inr ⟨L,hL,e⟩⟩
  pre:=Ids.refl _
  slt:=hlt
  sold:=fun b hb _=>hb
  snew:=fun b hb=>hb
  fr:=⟨rfl,rfl,rfl,Nat.le_refl _,fun _ _ _=>rfl⟩ }
 have key:∀ tm own S' ids a n,resK T tm own rs (fun vs=>FinV gs.length vs own post)→Sim N ⟨w,bs,S⟩ tm own S' ids a n→a.defers=[]∧∃ v,(results fn a.tmps).run P n=.ok v n∧EndV S w bs post (.returned v) n:=by
  intro tm own S' ids a n hK hs
  obtain⟨vs,h1,h2⟩:=resK_sound (P:=P) hT hK
  obtain⟨Us,h3,h4⟩:=h2 N _ S' ids a n hs
  refine⟨hs.defers,oneV Us,?_,FinV.endV (P:=P) hs (hG.len ▸ h1) h3⟩
  have h5:(results fn a.tmps)=((do let vs ← fn.results.mapM (resOne a.tmps);pure (if h:vs.size=1 then vs[0] else .tuple vs)):Sem Value):=by
   unfold results
   rfl
  rw [h5,hrs,Sem.run_bind,Array.mapM_eq_mapM_toList,Sem.run_map,h4]
  simp only [Result.andThen_ok]
  match Us with
  |[]=>rfl
  |[v]=>rfl
  |v::u::r=>simp [oneV,Sem.run_pure]
 refine WC_sound hT c (h ⟨w,bs,S⟩ hG.len) ⟨fun e a n ⟨tm,own,S',ids,hK,hs⟩=>?_,fun c a d v w hq=>⟨hq.1,hq.2⟩⟩ hs
 cases e with
 |normal=>exact key tm own S' ids a n hK hs
 |ret=>exact key tm own S' ids a n hK hs
 |_=>exact hK.elim
section
variable{P:Program}{f:Nat}{vs ars:List AV}{tm:Tm}{own:Ow}{N:Nat}{E:En}{dst:Option Nat}{K:Tm→Ow→Prop}
theorem CallN.updV(J I:List Nat){gs:List OB}{post:AV→List OB→Prop}(hv:RvJL own J I vs ars)(hI:Als own I)(hg:∀ i∈I,E.gs.length≤i)(hJ:Giv own J I gs)(h:RetV P f gs ars post)
  (hK:∀ r gs',post r gs'→gs'.length=gs.length→put N tm dst (rn0 J r) fun tm=>K tm (putJ J (gs'.map (rnO J)) (killI I own))):CallN P N E f vs dst K tm own:=by
 refine⟨fun S ids a n hs Vs hV=>?_⟩
 have hI':∀ i∈I,E.gs.length≤i∧∃ o,nth own i=some o∧alive o=true:=fun i hi=>⟨hg i hi,hI i hi⟩
 have hkl:=hs.kill hI'
 have hJo:∀ {k j:Nat},nth J k=some j→∃ g o L,nth gs k=some g∧nth own j=some o∧alive o=true∧nth ids j=some L∧((∃ cs g',o=.blk cs∧g=.blk g'∧RcJ own J I cs g')∨((∀ cs,o≠.blk cs)∧g=o))∧alive g=true∧nth (killI I own) j=some o:=fun {k j} hk=>by
  obtain⟨g,hgk⟩:=nth_of_lt (l:=gs) (i:=k) (by rw [← hJ.len];exact nth_lt hk)
  obtain⟨j',o,g1,g2,g3,g4⟩:=hJ.at_ k g hgk
  rw [hk] at g1;obtain rfl:=Option.some.inj g1
  obtain⟨L,hL⟩:=nth_of_lt (l:=ids) (i:=j) (by rw [hs.len];exact nth_lt g2)
  refine⟨g,o,L,hgk,g2,g3,hL,g4,?_,?_⟩
  ·rcases g4 with ⟨cs,g',rfl,rfl,_⟩|⟨_,rfl⟩
   ·rfl
   ·exact g3
  ·rw [killI_keep I own (hJ.ni j (by rw [nth_eq] at hk;exact List.mem_of_getElem? hk))];exact g2
 have hloc:∀ {k:Nat} {L:Loc},nth (locsJ ids J) k=some L→∃ j,nth J k=some j∧nth ids j=some L:=fun {k L} hk=>by
  have hlt:=nth_lt hk
  unfold locsJ at hlt
  obtain⟨j,hj⟩:=nth_of_lt (l:=J) (i:=k) (by simpa using hlt)
  obtain⟨g,o,L',_,_,_,h4,_⟩:=hJo hj
  rw [locsJ_nth hj h4] at hk
  obtain rfl:=Option.some.inj hk
  exact⟨j,hj,h4⟩
 have hGs:Gs (SI S ids I) n (locsJ ids J) gs:=by
  refine⟨by simp [locsJ,hJ.len],fun k g L hk hL=>?_,fun i j o o' L L' b hi hj ao ao' hL hL' e e'=>?_,fun i g L b hi ag hL e=>?_⟩
  ·obtain⟨j,h1,h2⟩:=hloc hL
   obtain⟨g',o,L',q1,q2,q3,q4,q5,_,q7⟩:=hJo h1
   rw [hk] at q1;obtain rfl:=Option.some.inj q1
   have hlv:=hkl.live j o L q7 h2
   rcases q5 with ⟨cs,g',rfl,rfl,q5⟩|⟨q5,rfl⟩
   ·have hlv0:=hs.live j _ L q2 h2
    obtain⟨b,ws,e,p1,p2⟩:=hlv0
    exact⟨b,ws,e,q5 S n ids _ hs.lv ws p1,p2⟩
   ·cases g with
    |blk cs=>exact absurd rfl (q5 cs)
    |_=>exact hlv
  ·obtain⟨x,h1,h2⟩:=hloc hL
   obtain⟨y,h3,h4⟩:=hloc hL'
   obtain⟨_,ox,_,_,q2,q3,_⟩:=hJo h1
   obtain⟨_,oy,_,_,p2,p3,_⟩:=hJo h3
   have:=hs.dist x y ox oy L L' b q2 p2 q3 p3 h2 h4 e e'
   subst this
   exact putK_nth (α:=Nat) hJ.nd h1 h3
  ·obtain⟨x,h1,h2⟩:=hloc hL
   obtain⟨_,ox,_,_,q2,q3,_,_,_,q7⟩:=hJo h1
   exact⟨(hkl.noS x ox L b q7 q3 h2 e).1,(hkl.noS x ox L b q7 q3 h2 e).2.1⟩
 refine(h (SI S ids I) n (locsJ ids J) Vs hGs (siLt0 hs hI) (hv S n ids _ hs.lv Vs hV)).mono fun e w' ⟨r,V,gs',bs',S',h1,h2,h3,h4,h5,h5',h5'',h6,h7,h8,h9⟩=>?_
 have hgl:gs'.length=gs.length:=by rw [← h4.len,h5'];simp [locsJ,hJ.len]
 obtain⟨tm',g1,g2⟩:=put_sound (hK r gs' h2 hgl)
 have hbl:bs'.length=J.length:=by rw [h5'];simp [locsJ]
 have hids_in:∀ {k j:Nat} {L:Loc},nth J k=some j→nth bs' k=some L→nth (putJ J bs' ids) j=some L:=fun {k j L} hk hL=>by
  obtain⟨_,_,_,_,_,_,q4,_⟩:=hJo hk
  exact putJ_in J bs' ids k j L hJ.nd hk hL (nth_lt q4)
 have hrn:RnOk J bs' (putJ J bs' ids):=fun k L hL=>by
  obtain⟨j,hj⟩:=nth_of_lt (l:=J) (i:=k) (by rw [← hbl];exact nth_lt hL)
  have:rnN J k=j:=by unfold rnN;rw [hj];rfl
  rw [this];exact hids_in hj hL
 have hJm:∀ {j:Nat},j∈J→∃ k L,nth J k=some j∧nth bs' k=some L∧nth (putJ J bs' ids) j=some L:=fun {j} hj=>by
  obtain⟨k,hk,ek⟩:=List.getElem_of_mem hj
  have hkj:nth J k=some j:=by rw [nth_eq];simp [hk,ek]
  obtain⟨L,hL⟩:=nth_of_lt (l:=bs') (i:=k) (by rw [hbl];exact hk)
  exact⟨k,L,hkj,hL,hids_in hkj hL⟩
 have hIds:Ids ids (putJ J bs' ids):=by
  refine⟨fun i b hi=>?_,fun i L hi hf=>?_⟩
  ·by_cases hj:i∈J
   ·obtain⟨k,L,q1,q2,q3⟩:=hJm hj
    have:=h5.fix k b (locsJ_nth q1 hi)
    rw [q2] at this;obtain rfl:=Option.some.inj this
    exact q3
   ·rw [putJ_out J bs' ids i hj];exact hi
  ·by_cases hj:i∈J
   ·obtain⟨k,L1,q1,q2,q3⟩:=hJm hj
    obtain⟨L',p1,p2,p3⟩:=h5.gro k L (locsJ_nth q1 hi) hf
    rw [q2] at p1;obtain rfl:=Option.some.inj p1
    exact⟨L1,q3,p2,p3⟩
   ·exact⟨L,by rw [putJ_out J bs' ids i hj];exact hi,hf,.inl rfl⟩
 have hown_in:∀ {j:Nat} {o:OB},j∈J→nth (putJ J (gs'.map (rnO J)) (killI I own)) j=some o→∃ k g L,nth J k=some j∧nth gs' k=some g∧o=rnO J g∧nth bs' k=some L∧nth (putJ J bs' ids) j=some L:=fun {j o} hj ho=>by
  obtain⟨k,L,q1,q2,q3⟩:=hJm hj
  obtain⟨g,hgk⟩:=nth_of_lt (l:=gs') (i:=k) (by rw [hgl,← hJ.len];exact nth_lt q1)
  obtain⟨_,_,_,_,p2,_⟩:=hJo q1
  have:nth (putJ J (gs'.map (rnO J)) (killI I own)) j=some (rnO J g):=putJ_in J _ _ k j _ hJ.nd q1 (by rw [nth_eq] at hgk ⊢;simp [hgk]) (by rw [killI_len];exact nth_lt p2)
  rw [ho] at this
  exact⟨k,g,L,q1,hgk,Option.some.inj this,q2,q3⟩
 have hal:∀ g:OB,alive (rnO J g)=alive g:=fun g=>by cases g<;>rfl
 have hkp:Kp (SI S ids I) S' n w':=⟨h9.size,h6,fun b hb hS=>h9.block b hb fun ⟨k,L,hL,e⟩=>by
  obtain⟨j,q1,q2⟩:=hloc hL
  obtain⟨_,o,_,_,_,p3,_,_,_,p7⟩:=hJo q1
  exact(hkl.noS j o L b p7 p3 q2 e).1 hS⟩
 have hblk:∀ {i:Nat} {o:OB} {L:Loc} {b:Nat},¬ i∈J→nth (killI I own) i=some o→alive o=true→nth ids i=some L→L.blk=some b→w'.heap[b]?=n.heap[b]?∧b<n.heap.size:=fun {i o L b} hi ho ao hL e=>by
  have hlt:=hkl.lt ho ao hL e
  refine⟨h9.block b hlt fun ⟨k,L',hL',e'⟩=>?_,hlt⟩
  obtain⟨j,q1,q2⟩:=hloc hL'
  obtain⟨_,oj,_,_,_,p3,_,_,_,p7⟩:=hJo q1
  have:=hkl.dist i j o oj L L' b ho p7 ao p3 hL q2 e e'
  subst this
  exact hi (by rw [nth_eq] at q1;exact List.mem_of_getElem? q1)
 have hold:∀ {k j:Nat} {g:OB} {L:Loc} {b:Nat},nth J k=some j→nth gs' k=some g→alive g=true→nth bs' k=some L→L.blk=some b→n.heap.size≤b∨∃ L0 o,nth ids j=some L0∧L0.blk=some b∧nth (killI I own) j=some o∧alive o=true:=fun {k j g L b} q1 q2 ag q3 e=>by
  rcases h5'' k g L b q2 ag q3 e with q|⟨L0,q,e0⟩
  ·exact .inl q
  ·obtain⟨j',p1,p2⟩:=hloc q
   rw [q1] at p1;obtain rfl:=Option.some.inj p1
   obtain⟨_,o,_,_,_,r3,_,_,_,r7⟩:=hJo q1
   exact .inr ⟨L0,o,p2,e0,r7,r3⟩
 have hfin:Sim N E tm (putJ J (gs'.map (rnO J)) (killI I own)) S' (putJ J bs' ids) a w':={
  size:=hkl.size
  defers:=hkl.defers
  sl:=fun t v hv=>by obtain⟨U,q1,q2⟩:=hkl.sl t v hv;exact⟨U,q1,(q2.kp hkp).ids hIds⟩
  len:=by rw [putJ_len,putJ_len];exact hkl.len
  live:=fun i o L hi hL=>by
   by_cases hj:i∈J
   ·obtain⟨k,g,L',q1,q2,rfl,q4,q5⟩:=hown_in hj hi
    rw [q5] at hL;obtain rfl:=Option.some.inj hL
    exact(h4.live k g L' q2 q4).rn hrn
   ·rw [putJ_out _ _ _ _ hj] at hi hL
    cases ho:alive o with
    |false=>cases o<;>first|trivial|cases ho
    |true=>exact((hkl.live i o L hi hL).kp hkp fun b hb=>hblk hj hi ho hL hb).ids hIds
  dist:=fun i j o o' L L' b hi hj ao ao' hL hL' e e'=>by
   by_cases hiJ:i∈J<;>by_cases hjJ:j∈J
   ·obtain⟨k,g,L1,q1,q2,rfl,q4,q5⟩:=hown_in hiJ hi
    obtain⟨k',g',L2,p1,p2,rfl,p4,p5⟩:=hown_in hjJ hj
    rw [q5] at hL;obtain rfl:=Option.some.inj hL
    rw [p5] at hL';obtain rfl:=Option.some.inj hL'
    have:=h4.dist k k' g g' L1 L2 b q2 p2 (by rw [← hal];exact ao) (by rw [← hal];exact ao') q4 p4 e e'
    subst this
    rw [q1] at p1;exact Option.some.inj p1
   ·obtain⟨k,g,L1,q1,q2,rfl,q4,q5⟩:=hown_in hiJ hi
    rw [q5] at hL;obtain rfl:=Option.some.inj hL
    rw [putJ_out _ _ _ _ hjJ] at hj hL'
    rcases hold q1 q2 (by rw [← hal];exact ao) q4 e with q|⟨L0,o0,r1,r2,r3,r4⟩
    ·have:=hkl.lt hj ao' hL' e';omega
    ·exact hkl.dist i j o0 o' L0 L' b r3 hj r4 ao' r1 hL' r2 e'
   ·obtain⟨k,g,L1,q1,q2,rfl,q4,q5⟩:=hown_in hjJ hj
    rw [q5] at hL';obtain rfl:=Option.some.inj hL'
    rw [putJ_out _ _ _ _ hiJ] at hi hL
    rcases hold q1 q2 (by rw [← hal];exact ao') q4 e' with q|⟨L0,o0,r1,r2,r3,r4⟩
    ·have:=hkl.lt hi ao hL e;omega
    ·exact(hkl.dist j i o0 o L0 L b r3 hi r4 ao r1 hL r2 e).symm
   ·rw [putJ_out _ _ _ _ hiJ] at hi hL
    rw [putJ_out _ _ _ _ hjJ] at hj hL'
    exact hkl.dist i j o o' L L' b hi hj ao ao' hL hL' e e'
  noS:=fun i o L b hi ao hL e=>by
   by_cases hiJ:i∈J
   ·obtain⟨k,g,L1,q1,q2,rfl,q4,q5⟩:=hown_in hiJ hi
    rw [q5] at hL;obtain rfl:=Option.some.inj hL
    have ag:alive g=true:=by rw [← hal];exact ao
    obtain⟨r1,r2⟩:=h4.noS k g L1 b q2 ag q4 e
    refine⟨r1,r2,?_⟩
    rcases hold q1 q2 ag q4 e with q|⟨L0,o0,p1,p2,p3,p4⟩
    ·exact .inl (Nat.le_trans hkl.fr.size q)
    ·exact(hkl.noS i o0 L0 b p3 p4 p1 p2).2.2
   ·rw [putJ_out _ _ _ _ hiJ] at hi hL
    obtain⟨r1,r2,r3⟩:=hkl.noS i o L b hi ao hL e
    exact⟨fun hS=>r1 (h7 b hS r2),Nat.lt_of_lt_of_le r2 h9.size,r3⟩
  pre:=hkl.pre.trans hIds
  slt:=h8
  sold:=fun b hb hlt=>hkl.sold b (h7 b hb (Nat.lt_of_lt_of_le hlt hkl.fr.size)) hlt
  snew:=fun b hb=>h6 b (hkl.snew b hb)
  fr:=⟨h9.os.trans hkl.fr.os,h9.tape.trans hkl.fr.tape,h9.output.trans hkl.fr.output,Nat.le_trans hkl.fr.size h9.size,fun b hb hG =>
   (h9.block b (Nat.lt_of_lt_of_le hb hkl.fr.size) (fun ⟨k,L,hL,e⟩=>by
    obtain⟨j,q1,q2⟩:=hloc hL
    obtain⟨_,o,_,_,_,p3,_,_,_,p7⟩:=hJo q1
    rcases(hkl.noS j o L b p7 p3 q2 e).2.2 with q|q
    ·omega
    ·exact hG ⟨j,q⟩)).trans (hkl.fr.block b hb hG)⟩ }
 exact⟨V,h1,tm',_,S',_,g1,g2 E _ S' _ a w' V hfin (R0_R (h3.rn hrn))⟩
end
def noG0(i:Nat):AV→Bool
 |.gro j _=>!(Nat.beq j i)
 |_=>true
def noG1(i:Nat):AV→Bool
 |.fn _ a b=>a.all (noG0 i)&&b.all (noG0 i)
 |v=>noG0 i v
def noG2(i:Nat):AV→Bool
 |.agg l=>l.all (noG1 i)
 |v=>noG1 i v
def ubOk(i m:Nat):AV→Bool
 |.gro j k=>!(Nat.beq j i)||Nat.beq k m
 |v=>noG1 i v
def ub(i sz m c:Nat):AV→AV
 |.gro j k=>bif Nat.beq j i then .sl i 0 sz m c else .gro j k
 |v=>v
def ubO(i sz m c:Nat):OB→OB
 |.blk cs=>.blk (cs.map (ub i sz m c))
 |o=>o
def ubOkO(i m:Nat):OB→Bool
 |.blk cs=>cs.all (ubOk i m)
 |_=>true
section
variable{S:Nat→Prop}{n:World}{ids:List Loc}{i g:Nat}{L:Loc}
theorem R0.noG(hi:nth ids i=some L)(hf:L.fix=false){v:AV}{V:Value}(hv:noG0 i v=true)(h:R0 S n ids v V):R0 S n (ids.set i (Loc.at_ g)) v V:=by
 have ne:∀ {j b:Nat},nth ids j=some (Loc.at_ b)→nth (ids.set i (Loc.at_ g)) j=some (Loc.at_ b):=fun {j b} hj=>by
  have hne:i≠j:=fun e=>by subst e;rw [hi] at hj;cases hj;cases hf
  rw [nth_set_ne hne];exact hj
 cases v with
 |own j off=>obtain⟨b,h1,h2⟩:=h;exact⟨b,ne h1,h2⟩
 |at_ j off=>obtain⟨b,h1,h2⟩:=h;exact⟨b,ne h1,h2⟩
 |sl j off sz m c=>obtain⟨b,h1,h2⟩:=h;exact⟨b,ne h1,h2⟩
 |mref j=>obtain⟨b,h1,h2⟩:=h;exact⟨b,ne h1,h2⟩
 |gro j m =>
  obtain⟨L',h1,h2⟩:=h
  have hne:i≠j:=fun e=>by subst e;simp [noG0] at hv
  exact⟨L',by rw [nth_set_ne hne];exact h1,h2⟩
 |_=>exact h
theorem R0L.noG(hi:nth ids i=some L)(hf:L.fix=false):∀ {l:List AV} {vs:List Value},l.all (noG0 i)=true→all2 (R0 S n ids) l vs→all2 (R0 S n (ids.set i (Loc.at_ g))) l vs
 |[],[],_,_=>trivial
 |a::l,v::vs,h,⟨h1,h2⟩=>by
  simp only [List.all_cons,Bool.and_eq_true] at h
  exact⟨h1.noG hi hf h.1,R0L.noG hi hf h.2 h2⟩
 |[],_::_,_,h=>h.elim
 |_::_,[],_,h=>h.elim
theorem R1.noG(hi:nth ids i=some L)(hf:L.fix=false){v:AV}{V:Value}(hv:noG1 i v=true)(h:R1 S n ids v V):R1 S n (ids.set i (Loc.at_ g)) v V:=by
 cases v with
 |fn f a b =>
  simp only [noG1,Bool.and_eq_true] at hv
  obtain⟨va,vb,e,h1,h2⟩:=h
  exact⟨va,vb,e,R0L.noG hi hf hv.1 h1,R0L.noG hi hf hv.2 h2⟩
 |_=>simp only [R1] at h ⊢;exact R0.noG hi hf hv h
theorem R1L.noG(hi:nth ids i=some L)(hf:L.fix=false):∀ {l:List AV} {vs:List Value},l.all (noG1 i)=true→all2 (R1 S n ids) l vs→all2 (R1 S n (ids.set i (Loc.at_ g))) l vs
 |[],[],_,_=>trivial
 |a::l,v::vs,h,⟨h1,h2⟩=>by
  simp only [List.all_cons,Bool.and_eq_true] at h
  exact⟨h1.noG hi hf h.1,R1L.noG hi hf h.2 h2⟩
 |[],_::_,_,h=>h.elim
 |_::_,[],_,h=>h.elim
theorem R.noG(hi:nth ids i=some L)(hf:L.fix=false){v:AV}{V:Value}(hv:noG2 i v=true)(h:R S n ids v V):R S n (ids.set i (Loc.at_ g)) v V:=by
 cases v with
 |agg l=>obtain⟨vs,e,h1⟩:=h;exact⟨vs,e,R1L.noG hi hf hv h1⟩
 |_=>simp only [R] at h ⊢;exact R1.noG hi hf hv h
theorem R1.ub{m c sz:Nat}(hi:nth ids i=some L)(hf:L.fix=false)(hn:L.n=m)(hv:L.v=.slice (some ⟨g,0,none⟩) m c){v:AV}{V:Value}(h0:ubOk i m v=true)(h:R1 S n ids v V):R1 S n (ids.set i (Loc.at_ g)) (Y.ub i sz m c v) V:=by
 cases v with
 |gro j k =>
  simp only [Y.ub]
  cases e:Nat.beq j i with
  |true =>
   obtain rfl:=Nat.eq_of_beq_eq_true e
   simp only [ubOk,e,Bool.not_true,Bool.false_or] at h0
   have hkm:k=m:=Nat.eq_of_beq_eq_true h0
   obtain⟨L',g1,g2,g3,g4,g5⟩:=h
   rw [hi] at g1;obtain rfl:=Option.some.inj g1
   exact⟨g,nth_set_self (nth_lt hi),(g5 (by omega)).trans hv⟩
  |false=>exact R1.noG hi hf (v:=.gro j k) (by simp [noG1,noG0,e]) h
 |fn f a b=>exact R1.noG hi hf (v:=.fn f a b) h0 h
 |_=>exact R1.noG hi hf rfl h
theorem R1L.ub{m c sz:Nat}(hi:nth ids i=some L)(hf:L.fix=false)(hn:L.n=m)(hv:L.v=.slice (some ⟨g,0,none⟩) m c):∀ {l:List AV} {vs:List Value},l.all (ubOk i m)=true→all2 (R1 S n ids) l vs→all2 (R1 S n (ids.set i (Loc.at_ g))) (l.map (Y.ub i sz m c)) vs
 |[],[],_,_=>trivial
 |a::l,v::vs,h,⟨h1,h2⟩=>by
  simp only [List.all_cons,Bool.and_eq_true] at h
  exact⟨h1.ub hi hf hn hv h.1,R1L.ub hi hf hn hv h.2 h2⟩
 |[],_::_,_,h=>h.elim
 |_::_,[],_,h=>h.elim
end
theorem Sim.unbuf{N:Nat}{E:En}{tm:Tm}{own:Ow}{S:Nat→Prop}{ids:List Loc}{a:Act}{n:World}(h:Sim N E tm own S ids a n){i e sz:Nat}{l:List (List AV)}(hi:nth own i=some (.buf e sz l))(hl:0<l.length)(hg:E.gs.length≤i)(hok:own.all (ubOkO i l.length)=true){Fx:Tm}(hx:Sub Fx tm)(hxn:Fx.all (fun p=>noG2 i p.2)=true) :
  ∃ L g c,nth ids i=some L∧L.fix=false∧L.n=l.length∧L.v=.slice (some ⟨g,0,none⟩) l.length c∧l.length≤c∧c≤maxLen∧Sim N E Fx ((own.map (ubO i sz l.length c)).set i (.blk l.flatten)) S (ids.set i (Loc.at_ g)) a n:=by
 obtain⟨L,hL⟩:=nth_of_lt (l:=ids) (i:=i) (by rw [h.len];exact nth_lt hi)
 obtain⟨A,c,vs,e1,h1,h2,h3⟩:=h.live i _ L hi hL
 rcases(ownsRow_info h2).2 with ⟨_,q,_⟩|⟨g,cur,rfl,_,q2,q3,q4,q5,q6⟩
 ·omega
 have hLf:L.fix=false:=by rw [e1]
 have hLn:L.n=l.length:=by rw [e1]
 have hLv:L.v=.slice (some ⟨g,0,none⟩) l.length c:=by rw [e1]
 have hLb:L.blk=some g:=by rw [e1];rfl
 have hlt:i<ids.length:=nth_lt hL
 refine⟨L,g,c,hL,hLf,hLn,hLv,q3,q4,?_⟩
 have key:∀ {j:Nat} {x:OB},nth ((own.map (ubO i sz l.length c)).set i (.blk l.flatten)) j=some x→(j=i∧x=.blk l.flatten)∨(j≠i∧∃ y,nth own j=some y∧x=ubO i sz l.length c y):=fun {j x} hx=>by
  by_cases e:i=j
  ·subst e
   rw [nth_set_self (by simpa using nth_lt hi)] at hx
   exact .inl ⟨rfl,(Option.some.inj hx).symm⟩
  ·rw [nth_set_ne e,nth_eq,List.getElem?_map] at hx
   obtain⟨y,hy,hy2⟩:=Option.map_eq_some_iff.1 hx
   exact .inr ⟨fun e'=>e e'.symm,y,by rw [nth_eq];exact hy,hy2.symm⟩
 have hal:∀ y:OB,alive (ubO i sz l.length c y)=alive y:=fun y=>by cases y<;>rfl
 have hloc:∀ {j:Nat} {M:Loc},nth (ids.set i (Loc.at_ g)) j=some M→(j=i∧M=Loc.at_ g)∨(j≠i∧nth ids j=some M):=fun {j M} hM=>by
  by_cases e:i=j
  ·subst e
   rw [nth_set_self hlt] at hM
   exact .inl ⟨rfl,(Option.some.inj hM).symm⟩
  ·rw [nth_set_ne e] at hM;exact .inr ⟨fun e'=>e e'.symm,hM⟩
 have old:∀ {j:Nat} {x:OB} {M:Loc} {b:Nat},nth ((own.map (ubO i sz l.length c)).set i (.blk l.flatten)) j=some x→alive x=true→nth (ids.set i (Loc.at_ g)) j=some M→M.blk=some b→∃ y M',nth own j=some y∧alive y=true∧nth ids j=some M'∧M'.blk=some b:=fun {j x M b} hx ax hM hb=>by
  rcases key hx with ⟨rfl,rfl⟩|⟨hj,y,hy,rfl⟩
  ·rcases hloc hM with ⟨_,rfl⟩|⟨h',_⟩
   ·exact⟨_,L,hi,rfl,hL,hLb.trans (show some g=some b from hb)⟩
   ·exact absurd rfl h'
  ·rcases hloc hM with ⟨h',_⟩|⟨_,hM⟩
   ·exact absurd h' hj
   ·exact⟨y,M,hy,by rw [← hal];exact ax,hM,hb⟩
 exact {
  size:=h.size
  defers:=h.defers
  sl:=fun t v hv=>by
   obtain⟨V,g1,g2⟩:=h.sl t v (hx.look hv)
   have:noG2 i v=true:=by
    have mem:∀ {m:Tm},look m t=some v→m.all (fun p=>noG2 i p.2)=true→noG2 i v=true:=by
     intro m
     induction m with
     |nil=>intro hm;simp [look] at hm
     |cons p m ih =>
      obtain⟨t',v'⟩:=p
      intro hm ha
      simp only [List.all_cons,Bool.and_eq_true] at ha
      simp only [look] at hm
      cases e:Nat.beq t' t with
      |true=>rw [e] at hm;simp only [cond_true,Option.some.injEq] at hm;subst hm;exact ha.1
      |false=>rw [e] at hm;exact ih hm ha.2
    exact mem hv hxn
   exact⟨V,g1,g2.noG hL hLf this⟩
  len:=by simp [h.len]
  live:=fun j x M hx hM=>by
   rcases key hx with ⟨rfl,rfl⟩|⟨hj,y,hy,rfl⟩
   ·rcases hloc hM with ⟨_,rfl⟩|⟨h',_⟩
    ·refine⟨g,vs,rfl,(PL_iff.1 h3).imp fun _ _ h=>P1_R1 h,?_,?_,(Array.getElem?_eq_some_iff.1 q2).1⟩
     ·intro j v hv
      rw [← q6] at hv
      have hv2:cur[j]?=some v:=by
       rw [List.getElem?_take] at hv
       split at hv
       ·simpa using hv
       ·cases hv
      simp [World.cell?,q2,hv2]
     ·intro j hj
      simp [World.frozen?,q2]
    ·exact absurd rfl h'
   ·rcases hloc hM with ⟨h',_⟩|⟨_,hM⟩
    ·exact absurd h' hj
    ·have hlv:=h.live j y M hy hM
     cases y with
     |blk cs =>
      obtain⟨b,ws,e,p1,p2⟩:=hlv
      have hc:ubOkO i l.length (.blk cs)=true:=List.all_eq_true.1 hok (.blk cs) (by rw [nth_eq] at hy;exact List.mem_of_getElem? hy)
      exact⟨b,ws,e,R1L.ub hL hLf hLn hLv hc p1,p2⟩
     |_=>exact hlv
  dist:=fun j k x y M M' b hx hy ax ay hM hM' e e'=>by
   obtain⟨x',X,p1,p2,p3,p4⟩:=old hx ax hM e
   obtain⟨y',Z,r1,r2,r3,r4⟩:=old hy ay hM' e'
   exact h.dist j k x' y' X Z b p1 r1 p2 r2 p3 r3 p4 r4
  noS:=fun j x M b hx ax hM e=>by
   obtain⟨x',X,p1,p2,p3,p4⟩:=old hx ax hM e
   exact h.noS j x' X b p1 p2 p3 p4
  pre:=⟨fun j b hj=>by
    have:=h.pre.fix j b hj
    have hne:i≠j:=fun e=>by subst e;have:=nth_lt hj;omega
    rw [nth_set_ne hne];exact this,fun j M hj hf=>by
    obtain⟨L',p1,p2⟩:=h.pre.gro j M hj hf
    have hne:i≠j:=fun e=>by subst e;have:=nth_lt hj;omega
    exact⟨L',by rw [nth_set_ne hne];exact p1,p2⟩⟩
  slt:=h.slt
  sold:=h.sold
  snew:=h.snew
  fr:=h.fr }
theorem CallS.unbuf{P:Program}{N:Nat}{E:En}{o:Oper}{f:Nat}{K:Tm→Ow→Prop}{tm:Tm}{own:Ow}(i:Nat){e sz m:Nat}{l:List (List AV)}(Fx:Tm)(own':Nat→Ow)(hi:nth own i=some (.buf e sz l))(hl:0<l.length)(hm:m=l.length)(hg:E.gs.length≤i)(hok:own.all (ubOkO i m)=true)(hx:Sub Fx tm)(hxn:Fx.all (fun p=>noG2 i p.2)=true)
  (hO:∀ c,own' c=(own.map (ubO i sz m c)).set i (.blk l.flatten)) (h:∀ c,m≤c→c≤maxLen→CallN P N E f [.sl i 0 sz m c] o.dst K Fx (own' c)):CallS P N E o f [.gro i m] K tm own:=by
 subst hm
 refine .call ⟨fun S ids a n hs Vs hV=>?_⟩
 obtain⟨L,g,c,q1,q2,q3,q4,q5,q6,q7⟩:=hs.unbuf hi hl hg hok hx hxn
 rw [← hO] at q7
 refine(h c q5 q6).out S _ a n q7 Vs ?_
 match Vs,hV with
 |[V],⟨⟨L',p1,p2,p3,p4,p5⟩,_⟩ =>
  rw [q1] at p1;obtain rfl:=Option.some.inj p1
  exact⟨⟨g,nth_set_self (nth_lt q1),(p5 q3).trans q4⟩,trivial⟩
theorem wpAny_draw0E{P:Program}{N:Nat}{E:En}{all:List Oper}{ks:List Nat}{tm tm':Tm}{own:Ow}{vs:List AV}{Q:Exit→Act→World→Prop}(hks:∀ k∈ks,k<all.length)(kc:List Nat)(hTr:Tr (OneOk P all own) N all (opsK all ks) tm vs tm')
  (hend:∀ J,J∈subl (ks.filter fun k=>!kc.contains k)→∀ S ids a n,Sim N E (dropT (dstK all J) tm') own S ids a n→wpAny P .any all.toArray Q (J.length+(all.length-ks.length)) (listedK all.length (lateK ks J)) a n) {f:Nat}
  (listed:Array Bool) (a:Act) (n:World) (hinv:DInv N E all ks tm own vs listed a n) (hf:(ks.filter fun j=>!listed.getD j false).length=f) (hdone:∀ j∈kc,listed.getD j false=true):wpAny P .any all.toArray Q (f+(all.length-ks.length)) listed a n:=by
 have hJ:(ks.filter fun j=>!listed.getD j false)∈subl (ks.filter fun k=>!kc.contains k):=by
  have e:(ks.filter fun j=>!listed.getD j false)=(ks.filter fun k=>!kc.contains k).filter fun j=>!listed.getD j false:=by
   rw [List.filter_filter]
   refine List.filter_congr fun j hj=>?_
   cases e1:listed.getD j false with
   |true=>simp
   |false =>
    have:¬ j∈kc:=fun h=>by rw [hdone j h] at e1;cases e1
    simp [this]
  rw [e]
  exact filter_subl _ _
 have hl:listed=listedK all.length (lateK ks (ks.filter fun j=>!listed.getD j false)):=by
  apply Array.ext
  ·rw [hinv.hi.size];simp [listedK]
  ·intro j h1 h2
   have e1:listed.getD j false=listed[j]:=by simp [Array.getD,h1]
   have e2:(listedK all.length (lateK ks (ks.filter fun j=>!listed.getD j false)))[j]=(lateK ks (ks.filter fun j=>!listed.getD j false)).contains j:=by simp [listedK]
   rw [e2,← e1,Bool.eq_iff_iff]
   simp only [lateK,List.contains_iff_mem,List.mem_filter,Bool.not_eq_eq_eq_not,Bool.not_true,List.contains_eq_mem,decide_eq_false_iff_not,not_and,decide_eq_true_eq]
   refine⟨fun h=>?_,fun ⟨h1,h2⟩=>?_⟩
   ·have hj:j∈ks:=by
     by_cases hj:j∈ks
     ·exact hj
     ·rw [hinv.out j hj] at h;cases h
    exact⟨hj,fun _=>by rw [h];simp⟩
   ·have:=h2 h1
    simpa using this
 have h:=hend _ hJ
 rw [← hl,hf] at h
 obtain⟨S,ids,h1,h2,h3⟩:=hinv.st
 refine h S ids a n (h1.with fun t v hv=>?_)
 obtain⟨g1,g2⟩:=look_dropT hv
 rcases hTr.end_ t v g2 with ⟨p,oj,q1,q2,q3,q4,_⟩|⟨q1,q2⟩
 ·obtain⟨k,k1,k2⟩:=(opsK_get hks).1 q2
  refine h3 p k oj t v k1 ?_ k2 q3 q4
  cases e:listed.getD k false with
  |true=>rfl
  |false=>exact absurd (mem_dstK (List.mem_filter.2 ⟨List.mem_of_getElem? k1,by rw [e];rfl⟩) k2 q3) g1
 ·exact h2 t v q1 fun j oj hj hoj=>by
   obtain⟨p,hp,e⟩:=List.getElem_of_mem hj
   exact q2 p oj ((opsK_get hks).2 ⟨j,by simp [hp,e],hoj⟩)
theorem wpAny_draw0L{P:Program}{N:Nat}{E:En}{all:List Oper}{ks:List Nat}{tm tm':Tm}{own:Ow}{vs:List AV}{Q:Exit→Act→World→Prop}(hks:∀ k∈ks,k<all.length)(hnd:ks.Nodup)
  (kc:List Nat) (hkc:∀ k∈kc,k∈ks) (hup:upKc all ks kc=true) (huse:useB all ks=true) (hback:backB all ks=true) (hdist:distB all ks=true) (hTr:Tr (OneOk P all own) N all (opsK all ks) tm vs tm')
  (hend:∀ J,J∈subl (ks.filter fun k=>!kc.contains k)→∀ S ids a n,Sim N E (dropT (dstK all J) tm') own S ids a n→wpAny P .any all.toArray Q (J.length+(all.length-ks.length)) (listedK all.length (lateK ks J)) a n) :
  ∀ (f:Nat) (listed:Array Bool) (a:Act) (n:World),DInv N E all ks tm own vs listed a n→(ks.filter fun j=>!listed.getD j false).length=f→wpAny P .any all.toArray Q (f+(all.length-ks.length)) listed a n
 |0,listed,a,n,hinv,hf=>wpAny_draw0E hks kc hTr hend listed a n hinv hf (fun j hj=>by
   have:=List.length_eq_zero_iff.1 hf
   rw [List.filter_eq_nil_iff] at this
   simpa using this j (hkc j hj))
 |f+1,listed,a,n,hinv,hf=>by
  by_cases hdone:∀ j∈kc,listed.getD j false=true
  ·exact wpAny_draw0E hks kc hTr hend listed a n hinv hf hdone
  rw [show f+1+(all.length-ks.length)=(f+(all.length-ks.length))+1 by omega]
  obtain⟨i0,hi0,hu0⟩:∃ i,i∈kc∧listed.getD i false=false:=by
   by_cases hex:∃ i,i∈kc∧listed.getD i false=false
   ·exact hex
   ·refine absurd (fun j hj=>?_) hdone
    cases e:listed.getD j false with
    |true=>rfl
    |false=>exact absurd ⟨j,hj,e⟩ hex
  have hsz:=hinv.hi.size
  have gD:∀ j,j<all.length→listed.getD j true=listed.getD j false:=fun j hj=>by simp [Array.getD,hsz,hj]
  have hready:∀ m,m≤ks.length→(∃ i,i∈ks.take m∧listed.getD i false=false)→∃ i,i∈Region.ready .any all.toArray listed:=by
   intro m
   induction m with
   |zero=>rintro _ ⟨i,hi,_⟩;simp at hi
   |succ m ih =>
    intro hm ⟨i,hi,hui⟩
    by_cases hex:∃ i,i∈ks.take m∧listed.getD i false=false
    ·exact ih (by omega) hex
    ·have him:ks[m]?=some i:=by
      rw [List.take_add_one] at hi
      rcases List.mem_append.1 hi with h|h
      ·exact absurd ⟨i,h,hui⟩ hex
      ·cases e:ks[m]? with
       |none=>rw [e] at h;simp at h
       |some q=>rw [e] at h;simp at h;rw [h]
     have hil:i<all.length:=hks i (List.mem_of_getElem? him)
     refine⟨i,mem_ready.2 ⟨by rw [gD i hil];exact hui,all[i],by simp [hil],fun e he hb=>?_⟩⟩
     have hlt:=backB_spec hback him (List.getElem?_eq_getElem hil) e he hb
     cases hg:listed.getD e.on false with
     |true=>rfl
     |false=>exact absurd ⟨e.on,hlt,hg⟩ hex
  refine⟨fun h0=>?_,fun i hi=>?_⟩
  ·obtain⟨i,hi⟩:=hready ks.length (Nat.le_refl _) ⟨i0,by rw [List.take_length];exact hkc i0 hi0,hu0⟩
   rw [h0] at hi;cases hi
  ·have hih:i∈ks:=upKc_wait hup hinv.hi hi0 hu0 hi
   obtain⟨p,hp,ep⟩:=List.getElem_of_mem hih
   have hip:ks[p]?=some i:=by simp [hp,ep]
   obtain⟨hun,o,ho',hdeps⟩:=mem_ready.1 hi
   have hil:i<all.length:=hks i hih
   have ho:all[i]?=some o:=by simpa using ho'
   have hun':listed.getD i false=false:=by rw [← gD i hil];exact hun
   obtain⟨hvl,hTa⟩:=hTr.at_
   obtain⟨v,d,tmi,g1,g2,g3,g4,g5⟩:=hTa p o ((opsK_get hks).2 ⟨i,hip,ho⟩)
   obtain⟨S,ids,h1,h2,h3⟩:=hinv.st
   have hsim:Sim N E (rst tmi (useTs all o)) own S ids a n:=h1.with fun t u hu=>by
    obtain⟨q1,q2⟩:=rst_look hu
    rcases g5 t u q2 with ⟨q,oj,p1,p2,p3,p4,_⟩|⟨p1,p2⟩
    ·obtain⟨j,k1,k2⟩:=(opsK_get hks).1 p2
     obtain⟨r1,r2⟩:=useB_spec huse hip ho q1 k2 p3
     exact h3 q j oj t u k1 (up_ready hinv.hi r2 hi) k2 p3 p4
    ·refine h2 t u p1 fun j oj hj hoj e=>?_
     obtain⟨r1,r2⟩:=useB_spec huse hip ho q1 hoj e
     obtain⟨q,hq,eq⟩:=List.getElem_of_mem r1
     rw [List.getElem_take] at eq
     have hql:q<p:=by simp at hq;omega
     exact p2 q oj hql ((opsK_get hks).2 ⟨j,by rw [← eq];exact List.getElem?_eq_getElem (by omega),hoj⟩) e
   have hlist:∀ j,(listed.setIfInBounds i true).getD j false=if j=i then true else listed.getD j false:=fun j=>by
    by_cases e:j=i
    ·subst e;simp [Array.getD,hsz,hil]
    ·rw [getD_set_ne false (fun e'=>e e'.symm),if_neg e]
   have hcount:(ks.filter fun j=>!(listed.setIfInBounds i true).getD j false).length=f:=by
    have e1:(ks.filter fun j=>!(listed.setIfInBounds i true).getD j false)=(ks.filter fun j=>!listed.getD j false).erase i:=by
     rw [List.Nodup.erase_eq_filter (hnd.filter _),List.filter_filter]
     refine List.filter_congr fun j _=>?_
     rw [hlist]
     by_cases e:j=i
     ·subst e;simp
     ·simp [e]
    rw [e1,List.length_erase_of_mem (List.mem_filter.2 ⟨hih,by rw [hun'];rfl⟩),hf];rfl
   have hnext:∀ V S' n',R S' n' ids v V→Past n n'→(∀ b,S b→S' b)→(∀ b,S' b→b<n.heap.size→S b)→(∀ b,S' b→b<n'.heap.size)→DInv N E all ks tm own vs (listed.setIfInBounds i true) (a.put (some d) V) n':=fun V S' n' hV hp k1 k2 k3=>by
    have hkp:Kp S S' n n':=⟨hp.size,k1,fun b hb _=>hp.block b hb⟩
    have hget:∀ t,t≠d→(a.put (some d) V).tmps[t]?=a.tmps[t]?:=fun t ht=>by
     simp only [Act.put];rw [Array.getElem?_setIfInBounds_ne (fun e=>ht e.symm)]
    refine⟨hinv.hi.set hi,fun j hj=>by rw [hlist,if_neg ((fun e=>hj (by rw [e];exact hih)))];exact hinv.out j hj,S',ids,?_,fun t u hu hno=>?_,fun q j oj d' u hj hl hoj hd' hu=>?_⟩
    ·have h4:=(h1.grow hp k1 k2 k3)
     exact { h4 with size:=by simp [Act.put,h4.size],defers:=h4.defers,sl:=fun t v hv=>by simp [look] at hv }
    ·obtain⟨U,q1,q2⟩:=h2 t u hu hno
     have hne:t≠d:=fun e=>hno i o hih ho (by rw [g2,e])
     exact⟨U,by rw [hget t hne];exact q1,q2.kp hkp⟩
    ·rw [hlist] at hl
     by_cases e:j=i
     ·subst e
      have hqp:q=p:=(List.getElem?_inj (List.getElem?_eq_some_iff.1 hj).1 hnd).1 (hj.trans hip.symm)
      subst hqp
      obtain rfl:o=oj:=Option.some.inj (ho.symm.trans hoj)
      obtain rfl:d=d':=Option.some.inj (g2.symm.trans hd')
      obtain rfl:v=u:=Option.some.inj (g1.symm.trans hu)
      exact⟨V,by simp [Act.put,h1.size,g3],hV⟩
     ·rw [if_neg e] at hl
      obtain⟨U,q1,q2⟩:=h3 q j oj d' u hj hl hoj hd' hu
      have hne:d'≠d:=fun e'=>e (distB_spec hdist (List.mem_of_getElem? hj) hih hoj ho (by rw [hd',e']) g2)
      exact⟨U,by rw [hget d' hne];exact q1,q2.kp hkp⟩
   unfold wpOp
   simp only [ho']
   rcases g4 N E S ids a n hsim with ⟨w1,w2⟩|⟨w1,w2⟩
   ·rw [if_pos w1]
    refine .inl (Oper.wp_mono (fun a' n' ⟨V,S',e,k0,k1,k2,k3,k4⟩=>?_) (w2 Q))
    subst e
    rw [g2]
    exact wpAny_draw0L hks hnd kc hkc hup huse hback hdist hTr hend f _ _ _ (hnext V S' n' k0 k1 k2 k3 k4) hcount
   ·rw [if_neg (by rw [w1];simp)]
    subst w2
    rw [g2]
    exact wpAny_draw0L hks hnd kc hkc hup huse hback hdist hTr hend f _ _ _ (hnext undef S n rfl (Below.refl _ _) (fun _ h=>h) (fun _ h _=>h) h1.slt) hcount
def draw0B(all:List Oper)(ks kc:List Nat):Bool :=
 Region.noSelect all.toArray&&ks.all (fun k=>decide (k<all.length))&&nodupB ks&&(opsK all ks).all (fun o=>o.dst.isSome)&&upKc all ks kc&&useB all ks&&backB all ks&&distB all ks&&(subl (ks.filter fun k=>!kc.contains k)).all (fun J=>tailB .any all.toArray (J++restK all.length ks) (listedK all.length (lateK ks J)))&&kc.all (fun k=>ks.contains k)
theorem Drw.lateM{T:Tab}{P:Program}(hT:TabOk P T){N:Nat}{E:En}{id:Nat}{l:List Oper}{K:Exit→Tm→Ow→Prop}{tm:Tm}{own:Ow}(ks kc:List Nat)(Js:List (List Nat))(rest:List Nat)(hJs:subl (ks.filter fun k=>!kc.contains k)=Js)(hR:restK l.length ks=rest)(hB:draw0B l ks kc=true)
  (hk:opsC l ks fun lo=>WD T P N l own lo (fun tm=>allM Js fun J=>opsC l (J++rest) fun lo=>dropJ l J tm fun tm=>WO T P N E l lo (K .normal) tm own) tm):Drw T P N E (.region id ⟨l⟩ true) l K tm own:=by
 refine .sem ⟨fun S ids a n hs Q hQ hpan=>?_⟩
 simp only [draw0B,Bool.and_eq_true] at hB
 obtain⟨⟨⟨⟨⟨⟨⟨⟨⟨b1,b2⟩,b2'⟩,b3⟩,b4⟩,b5⟩,b6⟩,b7⟩,b8⟩,b9⟩:=hB
 have hks:∀ k∈ks,k<l.length:=fun k hk=>by simpa using List.all_eq_true.1 b2 k hk
 have hnd:=nodupB_spec b2'
 obtain⟨vs,tm',h1,h2⟩:=WD_tr hT (fun o ho=>List.all_eq_true.1 b3 o ho) (opsC_out hk)
 refine wp_region_any hT.mixed ?_
 have hp:Past n { n with drawn:=n.drawn+1 }:=Past.draw n
 have hs':=hs.past hp
 have hf:(ks.filter fun j=>!(Array.replicate l.length false).getD j false).length=ks.length:=by
  rw [List.filter_eq_self.2 (fun j hj=>by simp [Array.getD])]
 have hrl:=restK_len l.length ks hks hnd
 have:=wpAny_draw0L (P:=P) (N:=N) (E:=E) (all:=l) (ks:=ks) (Q:=Q) hks hnd kc (fun k hk=>by simpa using List.all_eq_true.1 b9 k hk) b4 b5 b6 b7 h1 (fun J hJ S ids a n hs=>by
   have hJk:∀ j∈J,j<l.length:=fun j hj=>hks j (List.mem_filter.1 (subl_mem hJ j hj)).1
   have h3:=allM_mem h2 J (hJs ▸ hJ)
   have h4:=opsC_out h3
   have h5:=dropJ_iff (K:=fun tm=>WO T P N E l (opsK l (J++rest)) (K .normal) tm own) h4
   rw [← hR] at h5
   have:=wpAny_of_tail (P:=P) (md:=.any) (Q:=Q) (ops:=l.toArray) b1 hpan (opsK l (J++restK l.length ks)) (J++restK l.length ks) (listedK l.length (lateK ks J)) a n (by
    rw [List.map_append,restK_map]
    unfold opsK
    rw [List.map_append,List.map_append]
    congr 1
    rw [List.map_map]
    refine List.map_congr_left fun k hk=>?_
    have:=hJk k hk
    simp [List.getD,this]) (List.all_eq_true.1 b8 J hJ) (WO_sound hT h5 (fun a n h=>hQ _ _ _ h) hs)
   have e:(opsK l (J++restK l.length ks)).length=J.length+(l.length-ks.length):=by unfold opsK;rw [List.length_map,List.length_append,hrl]
   rw [e] at this
   exact this) ks.length (Array.replicate l.length false) a _ ⟨⟨by simp,fun j oj _ hl=>by simp [Array.getD] at hl⟩,fun j hj=>by simp [Array.getD],S,ids,hs'.nil,fun t v hv _=>hs'.sl t v hv,fun p j oj d v _ hl=>by simp [Array.getD] at hl⟩ hf
 have hle:ks.length≤l.length:=by
  have:=hnd.length_le_of_subset (l₂:=List.range l.length) (fun k hk=>List.mem_range.2 (hks k hk))
  simpa using this
 rw [show ks.length+(l.length-ks.length)=l.length by omega] at this
 simpa using this
end Y
end Go.Proofs.YtllemifiammnnaaGreat
