/- Part 13 of the proof. No condition. -/
import Derived.Test.YtllemifiammnnaaGreatR12
import Derived.Test.YtllemifiammnnaaGreatR05
import Derived.Test.YtllemifiammnnaaGreatR11
import Derived.Test.YtllemifiammnnaaGreatR08
set_option linter.unusedVariables false
set_option linter.unusedSimpArgs false
set_option maxRecDepth 100000
set_option maxHeartbeats 4000000
namespace Go.Proofs.YtllemifiammnnaaGreat
namespace Y
open Go Go.RowKit Go.Sort
abbrev tickC(y:W.Tick):List AV:=[I y.v,I y.slip0,I y.slip1,I y.rad,I y.acc,I y.lost0,I y.lost1,I y.lost2,I y.lost3,textsV y.junk,I y.command]
abbrev readC(r:W.Read):List AV:=[I r.cycle,I r.index,I r.group,I r.point]
abbrev ticksV(l:List W.Tick):AV:=.lst 11 l.length fun i=>tickC (l.getD i default)
abbrev readsV(l:List W.Read):AV:=.lst 4 l.length fun i=>readC (l.getD i default)
abbrev scrC(s:W.Script):List AV:=[isV s.route,I s.start,I s.v0,I s.circ0,I s.circ1,I s.phase0,I s.phase1,ticksV s.ticks,readsV s.reads]
abbrev scrV(s:W.Script):AV:=.agg (scrC s)
def ScrB(s:W.Script):Prop:=∀ y∈s.ticks,∀ l∈y.junk,∀ x∈l,x<256
theorem yFind(t:W.Trk)(id:Int)(h:t.grps.length≤1000):Ret Tryz.prog 10 [trkV t,I id] (·=I (W.findId t id)):=by
 refine enterO tabOk (N:=22) (gs:=[]) (args:=[_,_]) Tryz.func10 rfl rfl rfl (nLe rfl) (fun E hE=>?_)
 conv=>whnf
 refine LoopAt.rule tabOk [(1,_),(2,_)] (fun (i:Nat)=>[(5,.int .i64 (i:Int))]) (fun (i:Nat)=>[.blk [sgsV t.segs,gpsV t.grps]]) (fun (i:Nat)=>i≤t.grps.length∧∀ j,j<i→decide ((t.gp j).id=id)=false) (fun (i:Nat)=>t.grps.length-i) 0 (by trivial) ⟨Nat.zero_le _,fun j hj=>absurd hj (by omega)⟩ (by trivial) (by trivial) (fun _=>⟨rfl,rfl,rfl,by simp [hE]⟩) (fun i hk=>?_)
 obtain⟨hk,hno⟩:=hk
 by_cases hlt:i<t.grps.length
 ·have er:(t.gp i).id=(t.grps.getD i default).id:=rfl
  conv=>whnf
  repeat' (first|((first|refine Br.pt (by omega) ?_|refine Ob.mk (by omega) ?_|refine Ob.mk (by unfold W.I64 at *;omega) ?_|refine Ix.nat _ ?_|refine FinAt.val rfl ?_);conv=>whnf)|((refine Br.d (fun h=>?_) (fun h=>?_))<;>conv=>whnf))
  ·unfold W.findId
   rw [W.firstI_hit hno hlt (by rw [er];exact decide_eq_true (by assumption))]
   rfl
  ·exact⟨i+1,⟨hlt,W.all_step hno (by rw [er];exact decide_eq_false (by assumption))⟩,by omega,(by trivial),(by trivial),(by trivial)⟩
 ·obtain rfl:i=t.grps.length:=by omega
  conv=>whnf
  repeat' ((first|refine Br.pf (by omega) ?_|refine FinAt.val rfl ?_);conv=>whnf)
  unfold W.findId
  rw [W.firstI_none hno]
  rfl
theorem yStart(t:W.Trk)(l:List Int)(i:Int)(hn:0≤i)(hnl:i≤l.length)(hl4:l.length≤1000000)(hlen:W.LensOk t)(hin:W.InOk t l):Ret Tryz.prog 38 [trkV t,isV l,I i] (·=I (W.startOf t l i.toNat)):=by
 obtain⟨n,rfl⟩:=Int.eq_ofNat_of_zero_le hn
 have bd:=W.startOf_bd hlen hin
 show Ret _ _ _ (·=I (W.startOf t l n))
 refine enterO tabOk (N:=26) (gs:=[]) (args:=[_,_,_]) Tryz.func38 rfl rfl rfl (nLe rfl) (fun E hE=>?_)
 conv=>whnf
 refine LoopAt.rule tabOk [(1,_),(2,_),(3,_),(6,_)] (fun (i:Nat)=>[(7,.int .i64 (W.startOf t l i)),(8,.int .i64 (i:Int))]) (fun (i:Nat)=>[.blk [sgsV t.segs,gpsV t.grps]]) (fun (i:Nat)=>i≤n) (fun (i:Nat)=>n-i) 0 (by trivial) (Nat.zero_le _) (by trivial) (by trivial) (fun _=>⟨rfl,rfl,rfl,by simp [hE]⟩) (fun i hk=>?_)
 by_cases hlt:i<n
 ·have h1:=hin i (by omega)
  have h2:=bd i (by omega)
  have h3:0≤(t.segs.getD (l.getD i 0).toNat default).length∧(t.segs.getD (l.getD i 0).toNat default).length≤1099511627776:=hlen (l.getD i 0).toNat (by omega)
  conv=>whnf
  repeat' ((first|refine Br.pt (by omega) ?_|refine Ob.mk (by omega) ?_|refine Ob.mk (by unfold W.I64 at *;omega) ?_|refine Drw.loose (by kernel_rfl) ?_|refine Ix.nat _ ?_|refine Ix.tn (by omega) ?_);conv=>whnf)
  all_goals exact⟨i+1,hlt,by omega,(by trivial),(by trivial),(by trivial)⟩
 ·obtain rfl:i=n:=by omega
  conv=>whnf
  repeat' ((first|refine Br.pf (by omega) ?_|refine FinAt.val rfl ?_);conv=>whnf)
  all_goals rfl
theorem yAt(s:W.Script)(i:Int)(hb:ScrB s)(hn:0≤i)(hnl:i≤s.ticks.length)(hl4:s.ticks.length≤4100)(hv:W.VOk s i.toNat):Ret Tryz.prog 66 [scrV s,I i] (·=I (s.place i.toNat)):=by
 obtain⟨n,rfl⟩:=Int.eq_ofNat_of_zero_le hn
 have bd:=W.place_bd hv
 have hv2:∀ k,k<n→-1000000000000000≤(s.ticks.getD k default).v∧(s.ticks.getD k default).v≤1000000000000000:=hv.2
 have bd:∀ k,k≤n→-(1000000000000000*((k:Int)+1))≤s.place k∧s.place k≤1000000000000000*(k+1):=bd
 show Ret _ _ _ (·=I (s.place n))
 refine enterO tabOk (N:=23) (gs:=[]) (args:=[_,_]) Tryz.func66 rfl rfl rfl (nLe rfl) (fun E hE=>?_)
 conv=>whnf
 refine LoopAt.rule tabOk [(1,_),(2,_),(4,_)] (fun (i:Nat)=>[(5,.int .i64 (s.place i)),(6,.int .i64 (i:Int))]) (fun (i:Nat)=>[.blk (scrC s)]) (fun (i:Nat)=>i≤n) (fun (i:Nat)=>n-i) 0 (by trivial) (Nat.zero_le _) (by trivial) (by trivial) (fun _=>⟨rfl,rfl,rfl,by simp [hE]⟩) (fun i hk=>?_)
 by_cases hlt:i<n
 ·have h1:=hv2 i hlt
  have h2:=bd i (by omega)
  conv=>whnf
  repeat' ((first|refine Br.pt (by omega) ?_|refine Ob.mk (by omega) ?_|refine Ob.mk (by unfold W.I64 at *;omega) ?_|refine Ix.nat _ ?_);conv=>whnf)
  all_goals exact⟨i+1,hlt,by omega,(by trivial),(by trivial),(by trivial)⟩
 ·obtain rfl:i=n:=by omega
  conv=>whnf
  repeat' ((first|refine Br.pf (by omega) ?_|refine FinAt.val rfl ?_);conv=>whnf)
  all_goals rfl
theorem yAt10(l:List W.Piece)(y:Int)(h0:0<l.length)(h1:l.length≤1000):Ret Tryz.prog 111 [pcsV l,I y] (·=I (W.gradeAt l y l.length)):=by
 refine enterO tabOk (N:=30) (gs:=[]) (args:=[_,_]) Tryz.func111 rfl rfl rfl (nLe rfl) (fun E hE=>?_)
 conv=>whnf
 repeat' ((first|refine Ob.mk (by omega) ?_|refine Ix.of 0 rfl ?_);conv=>whnf)
 refine LoopAt.rule tabOk [(0,_),(1,_),(4,_)] (fun (i:Nat)=>[(5,.int .i64 (W.gradeAt l y i)),(6,.int .i64 (i:Int))]) (fun (i:Nat)=>[]) (fun (i:Nat)=>i≤l.length) (fun (i:Nat)=>l.length-i) 0 (by trivial) (Nat.zero_le _) (by trivial) (by trivial) (fun _=>⟨rfl,rfl,rfl,by simp [hE]⟩) (fun i hk=>?_)
 by_cases hlt:i<l.length
 ·by_cases hc:(l.getD i default).from_≤y
  ·have e:W.gradeAt l y (i+1)=(l.getD i default).grade:=if_pos hc
   conv=>whnf
   repeat' ((first|refine Br.pt (by assumption) ?_|refine Br.pt (by omega) ?_|refine Ob.mk (by omega) ?_|refine Ob.mk (by unfold W.I64 at *;omega) ?_|refine Ix.nat _ ?_);conv=>whnf)
   all_goals first
    |omega
    |exact⟨i+1,hlt,by omega,⟨congrArg (fun z=>some (AV.int .i64 z)) e.symm,rfl,trivial⟩,(by trivial),(by trivial)⟩
  ·have e:W.gradeAt l y (i+1)=W.gradeAt l y i:=if_neg hc
   conv=>whnf
   repeat' ((first|refine Br.pf (by assumption) ?_|refine Br.pt (by omega) ?_|refine Ob.mk (by omega) ?_|refine Ob.mk (by unfold W.I64 at *;omega) ?_|refine Ix.nat _ ?_);conv=>whnf)
   all_goals first
    |omega
    |exact⟨i+1,hlt,by omega,⟨congrArg (fun z=>some (AV.int .i64 z)) e.symm,rfl,trivial⟩,(by trivial),(by trivial)⟩
 ·obtain rfl:i=l.length:=by omega
  conv=>whnf
  repeat' ((first|refine Br.pf (by omega) ?_|refine FinAt.val rfl ?_);conv=>whnf)
  all_goals rfl
theorem yGrade(t:W.Trk)(l:List Int)(y:Int)(hl4:l.length≤1000)(hlen:W.LensOk t)(hin:W.InOk t l)(hpc:W.PcsOk t)(y0:-1000000000000000000≤y)(y1:y≤1000000000000000000):Ret Tryz.prog 65 [trkV t,isV l,I y] (·=I (W.gradeOn t l y)):=by
 have bd:=W.startOf_bd hlen hin
 refine enterO tabOk (N:=44) (gs:=[]) (args:=[_,_,_]) Tryz.func65 rfl rfl rfl (nLe rfl) (fun E hE=>?_)
 conv=>whnf
 refine LoopAt.rule tabOk [(1,_),(2,_),(3,_)] (fun (i:Nat)=>[(7,.int .i64 (i:Int))]) (fun (i:Nat)=>[.blk [sgsV t.segs,gpsV t.grps]]) (fun (i:Nat)=>i≤l.length∧∀ j,j<i→W.gradeHere t l y j=false) (fun (i:Nat)=>l.length-i) 0 (by trivial) ⟨Nat.zero_le _,fun j hj=>absurd hj (by omega)⟩ (by trivial) (by trivial) (fun _=>⟨rfl,rfl,rfl,by simp [hE]⟩) (fun i hk=>?_)
 obtain⟨hk,hno⟩:=hk
 by_cases hlt:i<l.length
 ·have h1:=hin i hlt
  have b0:=bd i (by omega)
  have b1:=bd (i+1) (by omega)
  have e0:=yStart t l ((i:Int)+1) (by omega) (by omega) (by omega) hlen hin
  rw [show ((i:Int)+1).toNat=i+1 by omega] at e0
  have e1:=yStart t l (i:Int) (by omega) (by omega) (by omega) hlen hin
  rw [show ((i:Int)).toNat=i by omega] at e1
  by_cases hc:y<W.startOf t l (i+1)∨i+1=l.length
  ·have hg:W.gradeHere t l y i=true:=decide_eq_true hc
   have hp:=hpc (l.getD i 0).toNat (by omega)
   have hp':0<(t.segs.getD (l.getD i 0).toNat default).pieces.length∧(t.segs.getD (l.getD i 0).toNat default).pieces.length≤1000:=hp
   have e2:=yAt10 (t.segs.getD (l.getD i 0).toNat default).pieces (y-W.startOf t l i) hp'.1 hp'.2
   rw [W.gradeOn_hit hno hlt hg rfl]
   rcases hc with hc|hc
   ·conv=>whnf
    repeat' ((first|refine Br.pt (by assumption) ?_|refine Br.pt (by omega) ?_|refine Br.ot rfl ?_|refine CallS.q (e0) rfl ?_|refine CallX.pu (e1) rfl rfl ?_|refine CallX.pu (e2) rfl rfl ?_|refine Ob.mk (by omega) ?_|refine Ob.mk (by unfold W.I64 at *;omega) ?_|refine Drw.loose (by kernel_rfl) ?_|refine Ix.nat _ ?_|refine Ix.tn (by omega) ?_|refine FinAt.val rfl ?_);conv=>whnf)
    all_goals first
     |omega
     |rfl
   ·by_cases hc2:y<W.startOf t l (i+1)
    ·conv=>whnf
     repeat' ((first|refine Br.pt (by assumption) ?_|refine Br.pt (by omega) ?_|refine Br.ot rfl ?_|refine CallS.q (e0) rfl ?_|refine CallX.pu (e1) rfl rfl ?_|refine CallX.pu (e2) rfl rfl ?_|refine Ob.mk (by omega) ?_|refine Ob.mk (by unfold W.I64 at *;omega) ?_|refine Drw.loose (by kernel_rfl) ?_|refine Ix.nat _ ?_|refine Ix.tn (by omega) ?_|refine FinAt.val rfl ?_);conv=>whnf)
     all_goals first
      |omega
      |rfl
    ·conv=>whnf
     repeat' ((first|refine Br.pf (by assumption) ?_|refine Br.pt (by omega) ?_|refine CallS.q (e0) rfl ?_|refine CallX.pu (e1) rfl rfl ?_|refine CallX.pu (e2) rfl rfl ?_|refine Ob.mk (by omega) ?_|refine Ob.mk (by unfold W.I64 at *;omega) ?_|refine Drw.loose (by kernel_rfl) ?_|refine Ix.nat _ ?_|refine Ix.tn (by omega) ?_|refine FinAt.val rfl ?_);conv=>whnf)
     all_goals first
      |omega
      |rfl
  ·have hg:W.gradeHere t l y i=false:=decide_eq_false hc
   conv=>whnf
   repeat' ((first|refine Br.pt (by omega) ?_|refine Br.pf (by omega) ?_|refine CallS.q (e0) rfl ?_|refine Ob.mk (by unfold W.I64 at *;omega) ?_);conv=>whnf)
   all_goals first
    |omega
    |exact⟨i+1,⟨hlt,W.all_step hno hg⟩,by omega,(by trivial),(by trivial),(by trivial)⟩
 ·obtain rfl:i=l.length:=by omega
  rw [W.gradeOn_none hno]
  conv=>whnf
  repeat' ((first|refine Br.pf (by omega) ?_|refine FinAt.val rfl ?_);conv=>whnf)
  all_goals rfl
theorem yNominal(t:W.Trk)(s:W.Script)(r:W.Read)(hb:ScrB s)(h0:t.grps.length≤1000)(hl4:s.route.length≤1000)(hlen:W.LensOk t)(hin:W.InOk t s.route)(hof:∀ k,k<t.grps.length→0≤(t.gp k).offset∧(t.gp k).offset≤1099511627776):Ret Tryz.prog 74 [trkV t,scrV s,.agg (readC r)] (·=.tup [I (W.nominal t s r).1,.bool (W.nominal t s r).2]):=by
 have eF:=yFind t r.group h0
 have bd:=W.startOf_bd hlen hin
 rcases W.firstI_cases (fun i=>decide ((t.gp i).id=r.group)) t.grps.length with q|⟨m,q,hm,_,_⟩
 ·have q':W.findId t r.group=-1:=q
  rw [W.nominal_no (.inl (by omega))]
  rw [q'] at eF
  refine enterO tabOk (N:=56) (gs:=[]) (args:=[_,_,_]) Tryz.func74 rfl rfl rfl (nLe rfl) (fun E hE=>?_)
  conv=>whnf
  repeat' ((first|refine Br.pt (by omega) ?_|refine Br.ot rfl ?_|refine CallS.q (eF) rfl ?_|refine Drw.loose (by kernel_rfl) ?_|refine FinAt.val rfl ?_);conv=>whnf)
  all_goals first|rfl|omega
 ·have q':W.findId t r.group=(m:Int):=q
  rw [q'] at eF
  have ho:0≤(t.grps.getD m default).offset∧(t.grps.getD m default).offset≤1099511627776:=hof m hm
  by_cases c1:r.index<0
  ·rw [W.nominal_no (.inr (.inl c1))]
   refine enterO tabOk (N:=56) (gs:=[]) (args:=[_,_,_]) Tryz.func74 rfl rfl rfl (nLe rfl) (fun E hE=>?_)
   conv=>whnf
   repeat' ((first|refine Br.pt (by assumption) ?_|refine Br.pf (by omega) ?_|refine Br.ot rfl ?_|refine CallS.q (eF) rfl ?_|refine Drw.loose (by kernel_rfl) ?_|refine FinAt.val rfl ?_);conv=>whnf)
   all_goals first|rfl|omega
  by_cases c2:(s.route.length:Int)≤r.index
  ·rw [W.nominal_no (.inr (.inr (.inl c2)))]
   refine enterO tabOk (N:=56) (gs:=[]) (args:=[_,_,_]) Tryz.func74 rfl rfl rfl (nLe rfl) (fun E hE=>?_)
   conv=>whnf
   repeat' ((first|refine Br.pt (by assumption) ?_|refine Br.pf (by assumption) ?_|refine Br.pf (by omega) ?_|refine Br.ot rfl ?_|refine CallS.q (eF) rfl ?_|refine Drw.loose (by kernel_rfl) ?_|refine FinAt.val rfl ?_);conv=>whnf)
   all_goals first|rfl|omega
  have eS:=yStart t s.route r.index (by omega) (by omega) (by omega) hlen hin
  have b0:=bd r.index.toNat (by omega)
  have eg:(t.grp (W.findId t r.group))=t.grps.getD m default:=by rw [q'];rfl
  by_cases c3:s.route.getD r.index.toNat 0=(t.grps.getD m default).seg
  ·rw [W.nominal_yes (by rw [q',show t.grp (m:Int)=t.grps.getD m default from rfl];omega),eg]
   refine enterO tabOk (N:=56) (gs:=[]) (args:=[_,_,_]) Tryz.func74 rfl rfl rfl (nLe rfl) (fun E hE=>?_)
   conv=>whnf
   repeat' ((first|refine Br.pf (by assumption) ?_|refine Br.nf (by assumption) ?_|refine Br.pf (by omega) ?_|refine CallS.q (eF) rfl ?_|refine CallX.pu (eS) rfl rfl ?_|refine Ob.mk (by omega) ?_|refine Ob.mk (by unfold W.I64 at *;omega) ?_|refine Drw.loose (by kernel_rfl) ?_|refine Ix.nat _ ?_|refine Ix.tn (by omega) ?_|refine FinAt.val rfl ?_);conv=>whnf)
   all_goals first|rfl|omega
  ·rw [W.nominal_no (.inr (.inr (.inr (by rw [eg];exact c3))))]
   refine enterO tabOk (N:=56) (gs:=[]) (args:=[_,_,_]) Tryz.func74 rfl rfl rfl (nLe rfl) (fun E hE=>?_)
   conv=>whnf
   repeat' ((first|refine Br.pf (by assumption) ?_|refine Br.nt (by assumption) ?_|refine Br.pf (by omega) ?_|refine CallS.q (eF) rfl ?_|refine Ob.mk (by omega) ?_|refine Drw.loose (by kernel_rfl) ?_|refine Ix.nat _ ?_|refine Ix.tn (by omega) ?_|refine FinAt.val rfl ?_);conv=>whnf)
   all_goals first|rfl|omega
theorem yFollows(t:W.Trk)(a b:Int)(h:∀ k,k<t.segs.length→(t.segs.getD k default).next.length≤1000000):Ret Tryz.prog 37 [trkV t,I a,I b] (·=.bool (W.follows t a b)):=by
 by_cases c1:a<0
 ·rw [W.follows_out (.inl c1)]
  refine enterO tabOk (N:=39) (gs:=[]) (args:=[_,_,_]) Tryz.func37 rfl rfl rfl (nLe rfl) (fun E hE=>?_)
  conv=>whnf
  repeat' ((first|refine Br.pt (by assumption) ?_|refine Br.ot rfl ?_|refine FinAt.val rfl ?_);conv=>whnf)
  all_goals first|rfl|omega
 by_cases c2:(t.segs.length:Int)≤a
 ·rw [W.follows_out (.inr c2)]
  refine enterO tabOk (N:=39) (gs:=[]) (args:=[_,_,_]) Tryz.func37 rfl rfl rfl (nLe rfl) (fun E hE=>?_)
  conv=>whnf
  repeat' ((first|refine Br.pt (by assumption) ?_|refine Br.pf (by assumption) ?_|refine FinAt.val rfl ?_);conv=>whnf)
  all_goals first|rfl|omega
 obtain⟨n,rfl⟩:=Int.eq_ofNat_of_zero_le (show 0≤a by omega)
 have hn:n<t.segs.length:=by omega
 have hh:=h n hn
 rw [W.follows_in hn (X:=(t.segs.getD n default).next) rfl]
 refine enterO tabOk (N:=39) (gs:=[]) (args:=[_,_,_]) Tryz.func37 rfl rfl rfl (nLe rfl) (fun E hE=>?_)
 conv=>whnf
 repeat' ((refine Br.pf (by assumption) ?_);conv=>whnf)
 all_goals try omega
 refine LoopAt.rule tabOk [(1,_),(2,_),(3,_)] (fun (i:Nat)=>[(7,.int .i64 (i:Int))]) (fun (i:Nat)=>[.blk [sgsV t.segs,gpsV t.grps]]) (fun (i:Nat)=>i≤(t.segs.getD n default).next.length∧∀ j,j<i→decide ((t.segs.getD n default).next.getD j 0=b)=false) (fun (i:Nat)=>(t.segs.getD n default).next.length-i) 0 (by trivial) ⟨Nat.zero_le _,fun j hj=>absurd hj (by omega)⟩ (by trivial) (by trivial) (fun _=>⟨rfl,rfl,rfl,by simp [hE]⟩) (fun i hk=>?_)
 obtain⟨hk,hno⟩:=hk
 by_cases hlt:i<(t.segs.getD n default).next.length
 ·conv=>whnf
  repeat' (first|((first|refine Br.pt (by omega) ?_|refine Ob.mk (by omega) ?_|refine Ob.mk (by unfold W.I64 at *;omega) ?_|refine Ix.nat _ ?_|refine FinAt.val rfl ?_);conv=>whnf)|((refine Br.d (fun h=>?_) (fun h=>?_))<;>conv=>whnf))
  ·rw [any_yes hlt (decide_eq_true (by assumption))]
   rfl
  ·exact⟨i+1,⟨hlt,W.all_step hno (decide_eq_false (by assumption))⟩,by omega,(by trivial),(by trivial),(by trivial)⟩
 ·obtain rfl:i=(t.segs.getD n default).next.length:=by omega
  rw [any_no hno]
  conv=>whnf
  repeat' ((first|refine Br.pf (by omega) ?_|refine Ob.mk (by omega) ?_|refine Ix.nat _ ?_|refine FinAt.val rfl ?_);conv=>whnf)
  all_goals rfl
theorem yMay(l:List W.Piece)(n:Int):Ret Tryz.prog 112 [pcsV l,I n] (·=.bool (W.may l n)):=by
 by_cases c1:l.length<1
 ·rw [W.may_no _ _ (.inl c1)]
  refine enterO tabOk (N:=66) (gs:=[]) (args:=[_,_]) Tryz.func112 rfl rfl rfl (nLe rfl) (fun E hE=>?_)
  conv=>whnf
  repeat' ((first|refine Br.pt (by omega) ?_|refine Br.ot rfl ?_|refine FinAt.val rfl ?_);conv=>whnf)
  all_goals first|rfl|omega
 by_cases c2:64<l.length
 ·rw [W.may_no _ _ (.inr (.inl c2))]
  refine enterO tabOk (N:=66) (gs:=[]) (args:=[_,_]) Tryz.func112 rfl rfl rfl (nLe rfl) (fun E hE=>?_)
  conv=>whnf
  repeat' ((first|refine Br.pt (by omega) ?_|refine Br.pf (by omega) ?_|refine Br.ot rfl ?_|refine FinAt.val rfl ?_);conv=>whnf)
  all_goals first|rfl|omega
 by_cases c3:(l.getD 0 default).from_≠0
 ·rw [W.may_no _ _ (.inr (.inr c3))]
  refine enterO tabOk (N:=66) (gs:=[]) (args:=[_,_]) Tryz.func112 rfl rfl rfl (nLe rfl) (fun E hE=>?_)
  conv=>whnf
  repeat' ((first|refine Br.nt (by assumption) ?_|refine Br.pf (by omega) ?_|refine Ob.mk (by omega) ?_|refine Ix.of 0 rfl ?_|refine FinAt.val rfl ?_);conv=>whnf)
  all_goals first|rfl|omega
 have c3:(l.getD 0 default).from_=0:=by omega
 rw [W.may_eq _ _ (by omega) (by omega) c3]
 refine enterO tabOk (N:=66) (gs:=[]) (args:=[_,_]) Tryz.func112 rfl rfl rfl (nLe rfl) (fun E hE=>?_)
 conv=>whnf
 repeat' ((first|refine Br.nf (by assumption) ?_|refine Br.pf (by omega) ?_|refine Ob.mk (by omega) ?_|refine Ix.of 0 rfl ?_);conv=>whnf)
 all_goals try omega
 refine LoopAt.rule tabOk [(0,_),(1,_)] (fun (i:Nat)=>[(5,.int .i64 (i:Int))]) (fun (i:Nat)=>[]) (fun (i:Nat)=>i≤l.length∧∀ j,j<i→W.mayAt l n j=true) (fun (i:Nat)=>l.length-i) 0 (by trivial) ⟨Nat.zero_le _,fun j hj=>absurd hj (by omega)⟩ (by trivial) (by trivial) (fun _=>⟨rfl,rfl,rfl,by simp [hE]⟩) (fun i hk=>?_)
 obtain⟨hk,hno⟩:=hk
 by_cases hlt:i<l.length
 ·have no:¬ (-1048576≤(l.getD i default).grade∧(l.getD i default).grade≤1048576∧(l.getD i default).from_<n∧(i=0∨(l.getD (i-1) default).from_<(l.getD i default).from_))→AV.bool false=.bool (W.allB (W.mayAt l n) l.length):=fun hf=>by
   rw [W.allB_no hlt (show W.mayAt l n i=false from decide_eq_false hf)]
  have yes:(-1048576≤(l.getD i default).grade∧(l.getD i default).grade≤1048576∧(l.getD i default).from_<n∧(i=0∨(l.getD (i-1) default).from_<(l.getD i default).from_))→W.mayAt l n i=true:=fun h=>decide_eq_true h
  rcases Nat.eq_zero_or_pos i with hi|hi
  ·subst hi
   conv=>whnf
   repeat' (first|((first|refine Br.pt (by assumption) ?_|refine Br.pf (by assumption) ?_|refine Br.pt (by omega) ?_|refine Br.pf (by omega) ?_|refine Br.ot rfl ?_|refine Br.of rfl ?_|refine Ob.mk (by omega) ?_|refine Ob.mk (by unfold W.I64 at *;omega) ?_|refine Drw.loose (by kernel_rfl) ?_|refine Ix.of 0 rfl ?_|refine FinAt.val rfl ?_);conv=>whnf)|((refine Br.d (fun h=>?_) (fun h=>?_))<;>conv=>whnf))
   all_goals first
    |exact no (by omega)
    |exact⟨1,⟨hlt,W.all_step hno (yes (by omega))⟩,by omega,(by trivial),(by trivial),(by trivial)⟩
  ·obtain⟨m,rfl⟩:∃ m,i=m+1:=⟨i-1,by omega⟩
   simp only [Nat.add_sub_cancel] at no yes
   have em:(l.getD (((m+1:Nat):Int)-1).toNat default).from_=(l.getD m default).from_:=by rw [show (((m+1:Nat):Int)-1).toNat=m by omega]
   conv=>whnf
   repeat' (first|((first|refine Br.pt (by assumption) ?_|refine Br.pf (by assumption) ?_|refine Br.pt (by omega) ?_|refine Br.ot rfl ?_|refine Ob.mk (by omega) ?_|refine Ob.mk (by unfold W.I64 at *;omega) ?_|refine Drw.loose (by kernel_rfl) ?_|refine Ix.nat _ ?_|refine Ix.tn (by omega) ?_|refine FinAt.val rfl ?_);conv=>whnf)|((refine Br.d (fun h=>?_) (fun h=>?_))<;>conv=>whnf))
   all_goals first
    |exact no (by omega)
    |exact⟨m+2,⟨hlt,W.all_step hno (yes (by omega))⟩,by omega,(by trivial),(by trivial),(by trivial)⟩
 ·obtain rfl:i=l.length:=by omega
  rw [W.allB_yes hno]
  conv=>whnf
  repeat' ((first|refine Br.pf (by omega) ?_|refine FinAt.val rfl ?_);conv=>whnf)
  all_goals rfl
theorem ySegment(s:W.Seg)(m:Int):Ret Tryz.prog 68 [.agg (sgC s),I m] (·=.bool (W.segMay s m)):=by
 have eM:=yMay s.pieces s.length
 by_cases c1:s.length<1
 ·rw [W.segMay_no (.inl c1)]
  refine enterO tabOk (N:=65) (gs:=[]) (args:=[_,_]) Tryz.func68 rfl rfl rfl (nLe rfl) (fun E hE=>?_)
  conv=>whnf
  repeat' ((first|refine Br.pt (by assumption) ?_|refine Br.ot rfl ?_|refine FinAt.val rfl ?_);conv=>whnf)
  all_goals first|rfl|omega
 by_cases c2:1099511627776<s.length
 ·rw [W.segMay_no (.inr (.inl c2))]
  refine enterO tabOk (N:=65) (gs:=[]) (args:=[_,_]) Tryz.func68 rfl rfl rfl (nLe rfl) (fun E hE=>?_)
  conv=>whnf
  repeat' ((first|refine Br.pt (by assumption) ?_|refine Br.pf (by assumption) ?_|refine Br.ot rfl ?_|refine FinAt.val rfl ?_);conv=>whnf)
  all_goals first|rfl|omega
 by_cases c3:W.may s.pieces s.length=false
 ·rw [W.segMay_no (.inr (.inr (.inl c3)))]
  rw [c3] at eM
  refine enterO tabOk (N:=65) (gs:=[]) (args:=[_,_]) Tryz.func68 rfl rfl rfl (nLe rfl) (fun E hE=>?_)
  conv=>whnf
  repeat' ((first|refine Br.pf (by assumption) ?_|refine Br.ot rfl ?_|refine CallS.q (eM) rfl ?_|refine FinAt.val rfl ?_);conv=>whnf)
  all_goals first|rfl|omega
 have c3:W.may s.pieces s.length=true:=by simpa using c3
 rw [c3] at eM
 by_cases c4:2<s.next.length
 ·rw [W.segMay_no (.inr (.inr (.inr (.inl c4))))]
  refine enterO tabOk (N:=65) (gs:=[]) (args:=[_,_]) Tryz.func68 rfl rfl rfl (nLe rfl) (fun E hE=>?_)
  conv=>whnf
  repeat' ((first|refine Br.pf (by assumption) ?_|refine Br.pt (by omega) ?_|refine Br.of rfl ?_|refine CallS.q (eM) rfl ?_|refine FinAt.val rfl ?_);conv=>whnf)
  all_goals first|rfl|omega
 refine enterO tabOk (N:=65) (gs:=[]) (args:=[_,_]) Tryz.func68 rfl rfl rfl (nLe rfl) (fun E hE=>?_)
 conv=>whnf
 repeat' ((first|refine Br.pf (by assumption) ?_|refine Br.pf (by omega) ?_|refine Br.of rfl ?_|refine CallS.q (eM) rfl ?_);conv=>whnf)
 all_goals try omega
 refine LoopAt.rule tabOk [(1,_),(2,_)] (fun (i:Nat)=>[(5,.int .i64 (i:Int))]) (fun (i:Nat)=>[.blk (sgC s)]) (fun (i:Nat)=>i≤s.next.length∧∀ j,j<i→W.nextAt s m j=true) (fun (i:Nat)=>s.next.length-i) 0 (by trivial) ⟨Nat.zero_le _,fun j hj=>absurd hj (by omega)⟩ (by trivial) (by trivial) (fun _=>⟨rfl,rfl,rfl,by simp [hE]⟩) (fun i hk=>?_)
 obtain⟨hk,hno⟩:=hk
 by_cases hlt:i<s.next.length
 ·have no:¬ (0≤s.next.getD i 0∧s.next.getD i 0<m)→AV.bool false=.bool (W.segMay s m):=fun hf=>by
   rw [W.segMay_no (.inr (.inr (.inr (.inr ⟨i,hlt,hf⟩))))]
  have yes:(0≤s.next.getD i 0∧s.next.getD i 0<m)→W.nextAt s m i=true:=fun h=>decide_eq_true h
  conv=>whnf
  repeat' (first|((first|refine Br.pt (by assumption) ?_|refine Br.pf (by assumption) ?_|refine Br.pt (by omega) ?_|refine Br.ot rfl ?_|refine Ob.mk (by omega) ?_|refine Ob.mk (by unfold W.I64 at *;omega) ?_|refine Ix.nat _ ?_|refine FinAt.val rfl ?_);conv=>whnf)|((refine Br.d (fun h=>?_) (fun h=>?_))<;>conv=>whnf))
  all_goals first
   |exact no (by omega)
   |exact⟨i+1,⟨hlt,W.all_step hno (yes (by omega))⟩,by omega,(by trivial),(by trivial),(by trivial)⟩
 ·obtain rfl:i=s.next.length:=by omega
  have fin:∀ b:Bool,b=decide (s.next.length<2∨s.next.getD 0 0<s.next.getD 1 0)→AV.bool b=.bool (W.segMay s m):=fun b hb=>by
   rw [W.segMay_yes (by omega) c3 (by omega) hno hb]
  conv=>whnf
  repeat' (first|((first|refine Br.pt (by assumption) ?_|refine Br.pf (by assumption) ?_|refine Br.pf (by omega) ?_|refine Ob.mk (by omega) ?_|refine Drw.loose (by kernel_rfl) ?_|refine Ix.of 0 rfl ?_|refine Ix.of 1 rfl ?_|refine FinAt.val rfl ?_);conv=>whnf)|((refine Br.d (fun h=>?_) (fun h=>?_))<;>conv=>whnf))
  all_goals exact fin _ (by first|exact(decide_eq_true (by omega)).symm|exact(decide_eq_false (by omega)).symm|exact decide_eq_decide.2 (by omega))
theorem yCheck11(t:W.Trk)(h:t.segs.length≤1000000)(h2:t.grps.length≤1000000):Ret Tryz.prog 36 [trkV t] (·=.tup [I t.checkR.1,I t.checkR.2]):=by
 by_cases c0:t.segs.length<1∨200<t.segs.length∨400<t.grps.length
 ·rw [W.checkR_many c0]
  refine enterO tabOk (N:=115) (gs:=[]) (args:=[_]) Tryz.func36 rfl rfl rfl (nLe rfl) (fun E hE=>?_)
  conv=>whnf
  repeat' (first|((first|refine Br.pt (by assumption) ?_|refine Br.pf (by assumption) ?_|refine Br.pt (by omega) ?_|refine Br.ot rfl ?_|refine FinAt.val rfl ?_);conv=>whnf)|((refine Br.d (fun h=>?_) (fun h=>?_))<;>conv=>whnf))
  all_goals first|rfl|omega
 refine enterO tabOk (N:=115) (gs:=[]) (args:=[_]) Tryz.func36 rfl rfl rfl (nLe rfl) (fun E hE=>?_)
 conv=>whnf
 repeat' ((refine Br.pf (by omega) ?_);conv=>whnf)
 all_goals try omega
 refine LoopAt.rule tabOk [(1,_)] (fun (i:Nat)=>[(4,.int .i64 (i:Int))]) (fun (i:Nat)=>[.blk [sgsV t.segs,gpsV t.grps]]) (fun (i:Nat)=>i≤t.segs.length∧∀ j,j<i→(!W.segMay (t.sg j) t.segs.length)=false) (fun (i:Nat)=>t.segs.length-i) 0 (by trivial) ⟨Nat.zero_le _,fun j hj=>absurd hj (by omega)⟩ (by trivial) (by trivial) (fun _=>⟨rfl,rfl,rfl,by simp [hE]⟩) (fun i hk=>?_)
 obtain⟨hk,hno⟩:=hk
 by_cases hlt:i<t.segs.length
 ·have eS:=ySegment (t.segs.getD i default) t.segs.length
  have er:W.segMay (t.sg i) t.segs.length=W.segMay (t.segs.getD i default) t.segs.length:=rfl
  cases hs:W.segMay (t.segs.getD i default) t.segs.length with
  |false =>
   rw [hs] at eS
   rw [W.checkR_seg c0 hno hlt (er.trans hs)]
   conv=>whnf
   repeat' ((first|refine Br.pt (by omega) ?_|refine Br.ot rfl ?_|refine CallX.pu (eS) rfl rfl ?_|refine Ob.mk (by omega) ?_|refine Drw.loose (by kernel_rfl) ?_|refine Ix.nat _ ?_|refine FinAt.val rfl ?_);conv=>whnf)
   all_goals rfl
  |true =>
   rw [hs] at eS
   conv=>whnf
   repeat' ((first|refine Br.pt (by omega) ?_|refine Br.of rfl ?_|refine CallX.pu (eS) rfl rfl ?_|refine Ob.mk (by omega) ?_|refine Ob.mk (by unfold W.I64 at *;omega) ?_|refine Drw.loose (by kernel_rfl) ?_|refine Ix.nat _ ?_);conv=>whnf)
   all_goals exact⟨i+1,⟨hlt,W.all_step hno (by rw [er,hs];rfl)⟩,by omega,(by trivial),(by trivial),(by trivial)⟩
 ·obtain rfl:i=t.segs.length:=by omega
  conv=>whnf
  repeat' ((refine Br.pf (by omega) ?_);conv=>whnf)
  refine LoopAt.rule tabOk [(1,_)] (fun (i:Nat)=>[(5,.int .i64 (W.lastId t i)),(6,.int .i64 (i:Int))]) (fun (i:Nat)=>[.blk [sgsV t.segs,gpsV t.grps]]) (fun (i:Nat)=>i≤t.grps.length∧∀ j,j<i→(!W.grpMay t j)=false) (fun (i:Nat)=>t.grps.length-i) 0 (by trivial) ⟨Nat.zero_le _,fun j hj=>absurd hj (by omega)⟩ (by trivial) (by trivial) (fun _=>⟨rfl,rfl,rfl,by simp [hE]⟩) (fun i hk=>?_)
  obtain⟨hk,hno2⟩:=hk
  by_cases hlt:i<t.grps.length
  ·have el:t.len (t.grps.getD i default).seg=(t.segs.getD (t.grps.getD i default).seg.toNat default).length:=rfl
   have yes:(W.lastId t i<(t.grps.getD i default).id∧(t.grps.getD i default).id≤65535∧0≤(t.grps.getD i default).seg∧(t.grps.getD i default).seg<t.segs.length∧0≤(t.grps.getD i default).offset∧(t.grps.getD i default).offset≤t.len (t.grps.getD i default).seg∧0≤(t.grps.getD i default).acc∧(t.grps.getD i default).acc≤1048576∧0≤(t.grps.getD i default).slack∧(t.grps.getD i default).slack≤16777216)→W.grpMay t i=true:=fun h=>decide_eq_true h
   have no:¬ (W.lastId t i<(t.grps.getD i default).id∧(t.grps.getD i default).id≤65535∧0≤(t.grps.getD i default).seg∧(t.grps.getD i default).seg<t.segs.length∧0≤(t.grps.getD i default).offset∧(t.grps.getD i default).offset≤t.len (t.grps.getD i default).seg∧0≤(t.grps.getD i default).acc∧(t.grps.getD i default).acc≤1048576∧0≤(t.grps.getD i default).slack∧(t.grps.getD i default).slack≤16777216)→AV.tup [I 16,I (i:Int)]=.tup [I t.checkR.1,I t.checkR.2]:=fun hf=>by
    rw [W.checkR_grp c0 hno hno2 hlt (show W.grpMay t i=false from decide_eq_false hf)]
   rw [el] at yes no
   conv=>whnf
   repeat' (first|((first|refine Br.pt (by assumption) ?_|refine Br.pf (by assumption) ?_|refine Br.pt (by omega) ?_|refine Br.ot rfl ?_|refine Ob.mk (by omega) ?_|refine Ob.mk (by unfold W.I64 at *;omega) ?_|refine Drw.loose (by kernel_rfl) ?_|refine Ix.nat _ ?_|refine Ix.tn (by omega) ?_|refine FinAt.val rfl ?_);conv=>whnf)|((refine Br.d (fun h=>?_) (fun h=>?_))<;>conv=>whnf))
   all_goals first
    |exact no (by omega)
    |exact⟨i+1,⟨hlt,W.all_step hno2 (by rw [yes (by omega)];rfl)⟩,by omega,(by trivial),(by trivial),(by trivial)⟩
  ·obtain rfl:i=t.grps.length:=by omega
   rw [W.checkR_ok c0 hno hno2]
   conv=>whnf
   repeat' ((first|refine Br.pf (by omega) ?_|refine FinAt.val rfl ?_);conv=>whnf)
   all_goals rfl
theorem yRoute(t:W.Trk)(l:List Int)(h0:t.segs.length≤1000000)(h1:l.length≤1000000)(h:∀ k,k<t.segs.length→(t.segs.getD k default).next.length≤1000000):Ret Tryz.prog 23 [trkV t,isV l] (·=.bool (W.routeMay t l)):=by
 by_cases c0:l.length<1∨400<l.length
 ·rw [W.routeMay_no c0]
  refine enterO tabOk (N:=51) (gs:=[]) (args:=[_,_]) Tryz.func23 rfl rfl rfl (nLe rfl) (fun E hE=>?_)
  conv=>whnf
  repeat' (first|((first|refine Br.pt (by assumption) ?_|refine Br.pf (by assumption) ?_|refine Br.pt (by omega) ?_|refine Br.ot rfl ?_|refine FinAt.val rfl ?_);conv=>whnf)|((refine Br.d (fun h=>?_) (fun h=>?_))<;>conv=>whnf))
  all_goals first|rfl|omega
 rw [W.routeMay_eq (by omega)]
 refine enterO tabOk (N:=51) (gs:=[]) (args:=[_,_]) Tryz.func23 rfl rfl rfl (nLe rfl) (fun E hE=>?_)
 conv=>whnf
 repeat' ((refine Br.pf (by omega) ?_);conv=>whnf)
 all_goals try omega
 refine LoopAt.rule tabOk [(1,_),(2,_)] (fun (i:Nat)=>[(5,.int .i64 (i:Int))]) (fun (i:Nat)=>[.blk [sgsV t.segs,gpsV t.grps]]) (fun (i:Nat)=>i≤l.length∧∀ j,j<i→W.routeAt t l j=true) (fun (i:Nat)=>l.length-i) 0 (by trivial) ⟨Nat.zero_le _,fun j hj=>absurd hj (by omega)⟩ (by trivial) (by trivial) (fun _=>⟨rfl,rfl,rfl,by simp [hE]⟩) (fun i hk=>?_)
 obtain⟨hk,hno⟩:=hk
 by_cases hlt:i<l.length
 ·have no:W.routeAt t l i=false→AV.bool false=.bool (W.allB (W.routeAt t l) l.length):=fun hf=>by rw [W.allB_no hlt hf]
  by_cases c1:l.getD i 0<0∨(t.segs.length:Int)≤l.getD i 0
  ·have hf:=no (W.routeAt_no rfl c1)
   conv=>whnf
   repeat' (first|((first|refine Br.pt (by assumption) ?_|refine Br.pf (by assumption) ?_|refine Br.pt (by omega) ?_|refine Br.ot rfl ?_|refine Ob.mk (by omega) ?_|refine Drw.loose (by kernel_rfl) ?_|refine Ix.nat _ ?_|refine FinAt.val rfl ?_);conv=>whnf)|((refine Br.d (fun h=>?_) (fun h=>?_))<;>conv=>whnf))
   all_goals first|exact hf|omega
  by_cases c2:i=0
  ·subst c2
   have hy:=W.routeAt_zero (t:=t) (l:=l) (x:=l.getD 0 0) rfl (by omega) rfl
   conv=>whnf
   repeat' ((first|refine Br.pt (by omega) ?_|refine Br.pf (by omega) ?_|refine Br.of rfl ?_|refine Ob.mk (by omega) ?_|refine Ob.mk (by unfold W.I64 at *;omega) ?_|refine Drw.loose (by kernel_rfl) ?_|refine Ix.of 0 rfl ?_);conv=>whnf)
   all_goals first
    |omega
    |exact⟨1,⟨hlt,W.all_step hno hy⟩,by omega,(by trivial),(by trivial),(by trivial)⟩
  ·obtain⟨m,rfl⟩:∃ m,i=m+1:=⟨i-1,by omega⟩
   have eF:Ret Tryz.prog 37 [trkV t,I (l.getD (((m+1:Nat):Int)-1).toNat 0),I (l.getD (m+1) 0)] (·=.bool (W.follows t (l.getD m 0) (l.getD (m+1) 0))):=by
    rw [show (((m+1:Nat):Int)-1).toNat=m by omega]
    exact yFollows t (l.getD m 0) (l.getD (m+1) 0) h
   cases hF:W.follows t (l.getD m 0) (l.getD (m+1) 0) with
   |false =>
    rw [hF] at eF
    have hf:=no (W.routeAt_succ (x:=l.getD (m+1) 0) rfl (by omega) rfl rfl hF)
    conv=>whnf
    repeat' ((first|refine Br.nt (by assumption) ?_|refine Br.pt (by omega) ?_|refine Br.pf (by omega) ?_|refine CallX.pu (eF) rfl rfl ?_|refine Ob.mk (by omega) ?_|refine Ob.mk (by unfold W.I64 at *;omega) ?_|refine Drw.loose (by kernel_rfl) ?_|refine Ix.nat _ ?_|refine Ix.tn (by omega) ?_|refine FinAt.val rfl ?_);conv=>whnf)
    all_goals first|exact hf|omega
   |true =>
    rw [hF] at eF
    have hy:=W.routeAt_succ (t:=t) (l:=l) (x:=l.getD (m+1) 0) rfl (by omega) rfl rfl hF
    conv=>whnf
    repeat' ((first|refine Br.pf (by assumption) ?_|refine Br.pt (by omega) ?_|refine Br.pf (by omega) ?_|refine CallX.pu (eF) rfl rfl ?_|refine Ob.mk (by omega) ?_|refine Ob.mk (by unfold W.I64 at *;omega) ?_|refine Drw.loose (by kernel_rfl) ?_|refine Ix.nat _ ?_|refine Ix.tn (by omega) ?_);conv=>whnf)
    all_goals first
     |omega
     |exact⟨m+2,⟨hlt,W.all_step hno hy⟩,by omega,(by trivial),(by trivial),(by trivial)⟩
 ·obtain rfl:i=l.length:=by omega
  rw [W.allB_yes hno]
  conv=>whnf
  repeat' ((first|refine Br.pf (by omega) ?_|refine FinAt.val rfl ?_);conv=>whnf)
  all_goals rfl
theorem ySpeeds(c:W.Conf)(s:W.Script)(hb:ScrB s)(h0:s.ticks.length≤1000000)(m0:0≤c.maxSpeed)(m1:c.maxSpeed≤16777216)(a0:0≤c.maxAccel)(a1:c.maxAccel≤1048576):Ret Tryz.prog 25 [confV c,scrV s] (·=.bool (W.speedsMay c s)):=by
 have e0:=yFar s.v0 c.maxSpeed (by omega) (by omega)
 cases hv:W.far s.v0 c.maxSpeed with
 |true =>
  rw [hv] at e0
  rw [W.speedsMay_v0 hv]
  refine enterO tabOk (N:=40) (gs:=[]) (args:=[_,_]) Tryz.func25 rfl rfl rfl (nLe rfl) (fun E hE=>?_)
  conv=>whnf
  repeat' ((first|refine Br.ot rfl ?_|refine CallS.q (e0) rfl ?_|refine FinAt.val rfl ?_);conv=>whnf)
  all_goals rfl
 |false =>
  rw [hv] at e0
  rw [W.speedsMay_eq hv]
  have hv':=(W.far_iffn _ _).1 hv
  refine enterO tabOk (N:=40) (gs:=[]) (args:=[_,_]) Tryz.func25 rfl rfl rfl (nLe rfl) (fun E hE=>?_)
  conv=>whnf
  repeat' ((first|refine Br.of rfl ?_|refine CallS.q (e0) rfl ?_);conv=>whnf)
  refine LoopAt.rule tabOk [(2,_),(3,_)] (fun (i:Nat)=>[(5,.int .i64 (s.ahead i)),(6,.int .i64 (i:Int))]) (fun (i:Nat)=>[.blk (confC c),.blk (scrC s)]) (fun (i:Nat)=>i≤s.ticks.length∧(∀ j,j<i→W.speedAt c s j=true)∧-c.maxSpeed≤s.ahead i∧s.ahead i≤c.maxSpeed) (fun (i:Nat)=>s.ticks.length-i) 0 (by trivial) ⟨Nat.zero_le _,fun j hj=>absurd hj (by omega),hv'.1,hv'.2⟩ (by trivial) (by trivial) (fun _=>⟨rfl,rfl,rfl,by simp [hE]⟩) (fun i hk=>?_)
  obtain⟨hk,hno,ha,hb'⟩:=hk
  by_cases hlt:i<s.ticks.length
  ·have es:W.speedAt c s i=(!W.far (s.ticks.getD i default).v c.maxSpeed && !W.far ((s.ticks.getD i default).v-s.ahead i) c.maxAccel):=rfl
   have no:W.speedAt c s i=false→AV.bool false=.bool (W.allB (W.speedAt c s) s.ticks.length):=fun hf=>by rw [W.allB_no hlt hf]
   have e1:=yFar (s.ticks.getD i default).v c.maxSpeed (by omega) (by omega)
   have e2:=yFar ((s.ticks.getD i default).v-s.ahead i) c.maxAccel (by omega) (by omega)
   cases h1:W.far (s.ticks.getD i default).v c.maxSpeed with
   |true =>
    rw [h1] at e1
    have hn:=no (by rw [es,h1];rfl)
    conv=>whnf
    repeat' ((first|refine Br.pt (by omega) ?_|refine Br.ot rfl ?_|refine CallS.q (e1) rfl ?_|refine Ob.mk (by omega) ?_|refine Ix.nat _ ?_|refine FinAt.val rfl ?_);conv=>whnf)
    all_goals exact hn
   |false =>
    rw [h1] at e1
    have h1':=(W.far_iffn _ _).1 h1
    cases h2:W.far ((s.ticks.getD i default).v-s.ahead i) c.maxAccel with
    |true =>
     rw [h2] at e2
     have hn:=no (by rw [es,h1,h2];rfl)
     conv=>whnf
     repeat' ((first|refine Br.pt (by omega) ?_|refine Br.ot rfl ?_|refine Br.of rfl ?_|refine CallS.q (e1) rfl ?_|refine CallS.q (e2) rfl ?_|refine Ob.mk (by omega) ?_|refine Ob.mk (by unfold W.I64 at *;omega) ?_|refine Ix.nat _ ?_|refine FinAt.val rfl ?_);conv=>whnf)
     all_goals exact hn
    |false =>
     rw [h2] at e2
     have hy:W.speedAt c s i=true:=by rw [es,h1,h2];rfl
     conv=>whnf
     repeat' ((first|refine Br.pt (by omega) ?_|refine Br.of rfl ?_|refine CallS.q (e1) rfl ?_|refine CallS.q (e2) rfl ?_|refine Ob.mk (by omega) ?_|refine Ob.mk (by unfold W.I64 at *;omega) ?_|refine Ix.nat _ ?_);conv=>whnf)
     all_goals exact⟨i+1,⟨hlt,W.all_step hno hy,h1'.1,h1'.2⟩,by omega,(by trivial),(by trivial),(by trivial)⟩
  ·obtain rfl:i=s.ticks.length:=by omega
   rw [W.allB_yes hno]
   conv=>whnf
   repeat' ((first|refine Br.pf (by omega) ?_|refine FinAt.val rfl ?_);conv=>whnf)
   all_goals rfl
theorem yOn(t:W.Trk)(s:W.Script)(hb:ScrB s)(h0:s.route.length≤400)(h1:s.ticks.length≤1000000)(hlen:W.LensOk t)(hin:W.InOk t s.route):Ret Tryz.prog 24 [trkV t,scrV s] (·=.bool (W.onMay t s)):=by
 have eS:=yStart t s.route s.route.length (by omega) (by omega) (by omega) hlen hin
 rw [show ((s.route.length:Nat):Int).toNat=s.route.length by omega] at eS
 have bd:=W.startOf_bd hlen hin s.route.length (Nat.le_refl _)
 generalize he:W.startOf t s.route s.route.length=e at *
 by_cases c0:s.ticks.length≤4096∧0≤s.start∧s.start≤e
 ·rw [W.onMay_eq he.symm c0]
  refine enterO tabOk (N:=60) (gs:=[]) (args:=[_,_]) Tryz.func24 rfl rfl rfl (nLe rfl) (fun E hE=>?_)
  conv=>whnf
  repeat' ((first|refine Br.pf (by omega) ?_|refine CallS.q (eS) rfl ?_);conv=>whnf)
  all_goals try omega
  refine LoopAt.rule tabOk [(2,_),(3,_),(5,_)] (fun (i:Nat)=>[(6,.int .i64 (s.place i)),(7,.int .i64 (i:Int))]) (fun (i:Nat)=>[.blk [sgsV t.segs,gpsV t.grps],.blk (scrC s)]) (fun (i:Nat)=>i≤s.ticks.length∧(∀ j,j<i→W.onAt s e j=true)∧0≤s.place i∧s.place i≤e) (fun (i:Nat)=>s.ticks.length-i) 0 (by trivial) ⟨Nat.zero_le _,fun j hj=>absurd hj (by omega),c0.2.1,c0.2.2⟩ (by trivial) (by trivial) (fun _=>⟨rfl,rfl,rfl,by simp [hE]⟩) (fun i hk=>?_)
  obtain⟨hk,hno,ha,hb'⟩:=hk
  by_cases hlt:i<s.ticks.length
  ·have no:W.onAt s e i=false→AV.bool false=.bool (W.allB (W.onAt s e) s.ticks.length):=fun hf=>by rw [W.allB_no hlt hf]
   have e1:=yFar (s.ticks.getD i default).v e (by omega) (by omega)
   cases h2:W.far (s.ticks.getD i default).v e with
   |true =>
    rw [h2] at e1
    have hn:=no (W.onAt_far rfl h2)
    conv=>whnf
    repeat' ((first|refine Br.pt (by omega) ?_|refine Br.ot rfl ?_|refine CallS.q (e1) rfl ?_|refine Ob.mk (by omega) ?_|refine Ix.nat _ ?_|refine FinAt.val rfl ?_);conv=>whnf)
    all_goals exact hn
   |false =>
    rw [h2] at e1
    have h2':=(W.far_iffn _ _).1 h2
    by_cases c1:0≤s.place i+(s.ticks.getD i default).v∧s.place i+(s.ticks.getD i default).v≤e
    ·have hy:W.onAt s e i=true:=W.onAt_eq rfl h2 rfl (decide_eq_true c1).symm
     conv=>whnf
     repeat' ((first|refine Br.pt (by omega) ?_|refine Br.pf (by omega) ?_|refine Br.of rfl ?_|refine CallS.q (e1) rfl ?_|refine Ob.mk (by omega) ?_|refine Ob.mk (by unfold W.I64 at *;omega) ?_|refine Ix.nat _ ?_);conv=>whnf)
     all_goals first
      |omega
      |exact⟨i+1,⟨hlt,W.all_step hno hy,c1.1,c1.2⟩,by omega,(by trivial),(by trivial),(by trivial)⟩
    ·have hn:=no (W.onAt_eq rfl h2 rfl (decide_eq_false c1).symm)
     conv=>whnf
     repeat' (first|((first|refine Br.pt (by assumption) ?_|refine Br.pf (by assumption) ?_|refine Br.pt (by omega) ?_|refine Br.ot rfl ?_|refine Br.of rfl ?_|refine CallS.q (e1) rfl ?_|refine Ob.mk (by omega) ?_|refine Ob.mk (by unfold W.I64 at *;omega) ?_|refine Ix.nat _ ?_|refine FinAt.val rfl ?_);conv=>whnf)|((refine Br.d (fun h=>?_) (fun h=>?_))<;>conv=>whnf))
     all_goals first
      |exact hn
      |omega
  ·obtain rfl:i=s.ticks.length:=by omega
   rw [W.allB_yes hno]
   conv=>whnf
   repeat' ((first|refine Br.pf (by omega) ?_|refine FinAt.val rfl ?_);conv=>whnf)
   all_goals rfl
 ·rw [W.onMay_no he.symm c0]
  refine enterO tabOk (N:=60) (gs:=[]) (args:=[_,_]) Tryz.func24 rfl rfl rfl (nLe rfl) (fun E hE=>?_)
  conv=>whnf
  repeat' (first|((first|refine Br.pt (by assumption) ?_|refine Br.pf (by assumption) ?_|refine Br.pt (by omega) ?_|refine Br.ot rfl ?_|refine CallS.q (eS) rfl ?_|refine FinAt.val rfl ?_);conv=>whnf)|((refine Br.d (fun h=>?_) (fun h=>?_))<;>conv=>whnf))
  all_goals first|rfl|omega
theorem yNumbers(c:W.Conf)(s:W.Script)(hb:ScrB s)(h0:s.ticks.length≤1000000)(a0:0≤c.accErr)(a1:c.accErr≤1048576):Ret Tryz.prog 26 [confV c,scrV s] (·=I (W.numbersMay c s)):=by
 by_cases c1:c.circLo≤s.circ0∧s.circ0≤c.circHi∧0≤s.phase0∧s.phase0<s.circ0
 rotate_left
 ·rw [W.numbersMay_5 (k:=0) (by omega) (decide_eq_false c1)]
  refine enterO tabOk (N:=80) (gs:=[]) (args:=[_,_]) Tryz.func26 rfl rfl rfl (nLe rfl) (fun E hE=>?_)
  conv=>whnf
  repeat' (first|((first|refine LoopAt.few tabOk 3 ?_|refine Br.pt (by assumption) ?_|refine Br.pf (by assumption) ?_|refine Br.pt (by omega) ?_|refine Br.ot rfl ?_|refine Ob.mk (by omega) ?_|refine Drw.loose (by kernel_rfl) ?_|refine Ix.of 0 rfl ?_|refine Pc.lit ?_|refine FinAt.val rfl ?_);conv=>whnf)|((refine Br.d (fun h=>?_) (fun h=>?_))<;>conv=>whnf))
  all_goals first|rfl|omega
 by_cases c2:c.circLo≤s.circ1∧s.circ1≤c.circHi∧0≤s.phase1∧s.phase1<s.circ1
 rotate_left
 ·rw [W.numbersMay_5 (k:=1) (by omega) (decide_eq_false c2)]
  refine enterO tabOk (N:=80) (gs:=[]) (args:=[_,_]) Tryz.func26 rfl rfl rfl (nLe rfl) (fun E hE=>?_)
  conv=>whnf
  repeat' (first|((first|refine LoopAt.few tabOk 3 ?_|refine Br.pt (by assumption) ?_|refine Br.pf (by assumption) ?_|refine Br.pt (by omega) ?_|refine Br.pf (by omega) ?_|refine Br.ot rfl ?_|refine Ob.mk (by omega) ?_|refine Ob.mk (by unfold W.I64 at *;omega) ?_|refine Drw.loose (by kernel_rfl) ?_|refine Ix.of 0 rfl ?_|refine Ix.of 1 rfl ?_|refine Pc.lit ?_|refine FinAt.val rfl ?_);conv=>whnf)|((refine Br.d (fun h=>?_) (fun h=>?_))<;>conv=>whnf))
  all_goals first|rfl|omega
 rw [W.numbersMay_eq (fun j hj=>by
  obtain rfl|rfl:j=0∨j=1:=by omega
  ·exact decide_eq_true c1
  ·exact decide_eq_true c2)]
 refine enterO tabOk (N:=80) (gs:=[]) (args:=[_,_]) Tryz.func26 rfl rfl rfl (nLe rfl) (fun E hE=>?_)
 conv=>whnf
 refine LoopAt.rule tabOk [(2,_),(3,_)] (fun (i:Nat)=>[(5,.int .i64 (i:Int))]) (fun (i:Nat)=>[.blk (confC c),.blk (scrC s)]) (fun (i:Nat)=>i≤2) (fun (i:Nat)=>2-i) 0 (by trivial) (Nat.zero_le _) (by trivial) (by trivial) (fun _=>⟨rfl,rfl,rfl,by simp [hE]⟩) (fun i hk=>?_)
 obtain rfl|rfl|rfl:i=0∨i=1∨i=2:=by omega
 ·conv=>whnf
  repeat' ((first|refine Br.pt (by omega) ?_|refine Br.pf (by omega) ?_|refine Ob.mk (by omega) ?_|refine Ob.mk (by unfold W.I64 at *;omega) ?_|refine Drw.loose (by kernel_rfl) ?_|refine Ix.of 0 rfl ?_|refine Pc.lit ?_);conv=>whnf)
  all_goals first
   |omega
   |exact⟨1,by omega,by omega,(by trivial),(by trivial),(by trivial)⟩
 ·conv=>whnf
  repeat' ((first|refine Br.pt (by omega) ?_|refine Br.pf (by omega) ?_|refine Ob.mk (by omega) ?_|refine Ob.mk (by unfold W.I64 at *;omega) ?_|refine Drw.loose (by kernel_rfl) ?_|refine Ix.of 1 rfl ?_|refine Pc.lit ?_);conv=>whnf)
  all_goals first
   |omega
   |exact⟨2,by omega,by omega,(by trivial),(by trivial),(by trivial)⟩
 ·conv=>whnf
  repeat' ((refine Br.nf (by assumption) ?_);conv=>whnf)
  refine LoopAt.rule tabOk [(2,_),(3,_)] (fun (i:Nat)=>[(6,.int .i64 (i:Int))]) (fun (i:Nat)=>[.blk (confC c),.blk (scrC s)]) (fun (i:Nat)=>i≤s.ticks.length∧(∀ j,j<i→W.tickMay c (s.tick j)=true)) (fun (i:Nat)=>s.ticks.length-i) 0 (by trivial) ⟨Nat.zero_le _,fun j hj=>absurd hj (by omega)⟩ (by trivial) (by trivial) (fun _=>⟨rfl,rfl,rfl,by simp [hE]⟩) (fun i hk=>?_)
  obtain⟨hk,hno⟩:=hk
  by_cases hlt:i<s.ticks.length
  ·have es:W.tickMay c (s.tick i)=(!W.far (s.ticks.getD i default).slip0 1099511627776 && !W.far (s.ticks.getD i default).slip1 1099511627776 && !W.far (s.ticks.getD i default).rad 1073741824 && !W.far (s.ticks.getD i default).acc c.accErr):=rfl
   have no:W.tickMay c (s.tick i)=false→I 6=I (if W.allB (fun i=>W.tickMay c (s.tick i)) s.ticks.length then 0 else 6):=fun hf=>by rw [W.allB_no hlt hf];rfl
   have e1:=yFar (s.ticks.getD i default).slip0 1099511627776 (by omega) (by omega)
   have e2:=yFar (s.ticks.getD i default).slip1 1099511627776 (by omega) (by omega)
   have e3:=yFar (s.ticks.getD i default).rad 1073741824 (by omega) (by omega)
   have e4:=yFar (s.ticks.getD i default).acc c.accErr (by omega) (by omega)
   rw [es] at no
   cases h1:W.far (s.ticks.getD i default).slip0 1099511627776<;>cases h2:W.far (s.ticks.getD i default).slip1 1099511627776<;>cases h3:W.far (s.ticks.getD i default).rad 1073741824<;>cases h4:W.far (s.ticks.getD i default).acc c.accErr
   all_goals
    rw [h1,h2,h3,h4] at no es
    rw [h1] at e1
    rw [h2] at e2
    rw [h3] at e3
    rw [h4] at e4
    conv=>whnf
    repeat' ((first|refine Br.pt (by omega) ?_|refine Br.ot rfl ?_|refine Br.of rfl ?_|refine CallS.q (e1) rfl ?_|refine CallS.q (e2) rfl ?_|refine CallS.q (e3) rfl ?_|refine CallS.q (e4) rfl ?_|refine Ob.mk (by omega) ?_|refine Ob.mk (by unfold W.I64 at *;omega) ?_|refine Ix.of 0 rfl ?_|refine Ix.of 1 rfl ?_|refine Ix.nat _ ?_|refine Pc.lit ?_|refine FinAt.val rfl ?_);conv=>whnf)
    all_goals first
     |exact no rfl
     |exact⟨i+1,⟨hlt,W.all_step hno es⟩,by omega,(by trivial),(by trivial),(by trivial)⟩
  ·obtain rfl:i=s.ticks.length:=by omega
   rw [W.allB_yes hno]
   conv=>whnf
   repeat' ((first|refine Br.pf (by omega) ?_|refine FinAt.val rfl ?_);conv=>whnf)
   all_goals rfl
theorem yCount(s:W.Script)(p i:Int)(j:Nat)(hj:j≤1)(p0:1≤p)(p1:p≤1024)(hn:0≤i)(hnl:i≤s.ticks.length)(hl4:s.ticks.length≤4100)(hv:W.NumOk s i.toNat):Ret Tryz.prog 63 [scrV s,I p,I j,I i] (·=I (s.count p j i.toNat)):=by
 obtain⟨n,rfl⟩:=Int.eq_ofNat_of_zero_le hn
 have hv:W.NumOk s n:=hv
 have bd:=W.turned_bd hv p0 p1 j
 have c0:=hv.circ0
 have c1:=hv.circ1
 show Ret _ _ _ (·=I (s.count p j n))
 have bn:=bd n (Nat.le_refl _)
 have eD0:=yDown (s.turned p j n) s.circ0 (by omega) (by omega) (by omega) (by omega)
 have eD1:=yDown (s.turned p j n) s.circ1 (by omega) (by omega) (by omega) (by omega)
 obtain rfl|rfl:j=0∨j=1:=by omega
 ·refine enterO tabOk (N:=45) (gs:=[]) (args:=[_,_,_,_]) Tryz.func63 rfl rfl rfl (nLe rfl) (fun E hE=>?_)
  conv=>whnf
  repeat' ((first|refine Ob.mk (by omega) ?_|refine Ix.of 0 rfl ?_|refine Pc.lit ?_);conv=>whnf)
  refine LoopAt.rule tabOk [(1,_),(2,_),(3,_),(4,_),(8,_)] (fun (i:Nat)=>[(9,.int .i64 (s.turned p 0 i)),(10,.int .i64 (i:Int))]) (fun (i:Nat)=>[.blk (scrC s)]) (fun (i:Nat)=>i≤n) (fun (i:Nat)=>n-i) 0 (by trivial) (Nat.zero_le _) (by trivial) (by trivial) (fun _=>⟨rfl,rfl,rfl,by simp [hE]⟩) (fun i hk=>?_)
  by_cases hlt:i<n
  ·have h1:=bd i (by omega)
   have h2:-16777216≤(s.ticks.getD i default).v∧(s.ticks.getD i default).v≤16777216:=hv.v i hlt
   have h3:-1099511627776≤(s.ticks.getD i default).slip0∧(s.ticks.getD i default).slip0≤1099511627776:=hv.slip0 i hlt
   have h4:-1099511627776≤(s.ticks.getD i default).slip1∧(s.ticks.getD i default).slip1≤1099511627776:=hv.slip1 i hlt
   have h5:=W.mul_bd (a:=p) (b:=(s.ticks.getD i default).v) (A:=1024) (B:=16777216) (by omega) (by omega) (by omega) (by omega)
   conv=>whnf
   repeat' ((first|refine Br.pt (by omega) ?_|refine Ob.mk (by omega) ?_|refine Ob.mk (by unfold W.I64 at *;omega) ?_|refine Drw.loose (by kernel_rfl) ?_|refine Ix.of 0 rfl ?_|refine Ix.nat _ ?_);conv=>whnf)
   all_goals exact⟨i+1,hlt,by omega,(by trivial),(by trivial),(by trivial)⟩
  ·obtain rfl:i=n:=by omega
   conv=>whnf
   repeat' ((first|refine Br.pf (by omega) ?_|refine CallS.q (eD0) rfl ?_|refine Ob.mk (by omega) ?_|refine Ix.of 0 rfl ?_|refine Pc.lit ?_|refine FinAt.val rfl ?_);conv=>whnf)
   all_goals rfl
 ·refine enterO tabOk (N:=45) (gs:=[]) (args:=[_,_,_,_]) Tryz.func63 rfl rfl rfl (nLe rfl) (fun E hE=>?_)
  conv=>whnf
  repeat' ((first|refine Ob.mk (by omega) ?_|refine Ix.of 1 rfl ?_|refine Pc.lit ?_);conv=>whnf)
  refine LoopAt.rule tabOk [(1,_),(2,_),(3,_),(4,_),(8,_)] (fun (i:Nat)=>[(9,.int .i64 (s.turned p 1 i)),(10,.int .i64 (i:Int))]) (fun (i:Nat)=>[.blk (scrC s)]) (fun (i:Nat)=>i≤n) (fun (i:Nat)=>n-i) 0 (by trivial) (Nat.zero_le _) (by trivial) (by trivial) (fun _=>⟨rfl,rfl,rfl,by simp [hE]⟩) (fun i hk=>?_)
  by_cases hlt:i<n
  ·have h1:=bd i (by omega)
   have h2:-16777216≤(s.ticks.getD i default).v∧(s.ticks.getD i default).v≤16777216:=hv.v i hlt
   have h3:-1099511627776≤(s.ticks.getD i default).slip0∧(s.ticks.getD i default).slip0≤1099511627776:=hv.slip0 i hlt
   have h4:-1099511627776≤(s.ticks.getD i default).slip1∧(s.ticks.getD i default).slip1≤1099511627776:=hv.slip1 i hlt
   have h5:=W.mul_bd (a:=p) (b:=(s.ticks.getD i default).v) (A:=1024) (B:=16777216) (by omega) (by omega) (by omega) (by omega)
   conv=>whnf
   repeat' ((first|refine Br.pt (by omega) ?_|refine Ob.mk (by omega) ?_|refine Ob.mk (by unfold W.I64 at *;omega) ?_|refine Drw.loose (by kernel_rfl) ?_|refine Ix.of 1 rfl ?_|refine Ix.nat _ ?_);conv=>whnf)
   all_goals exact⟨i+1,hlt,by omega,(by trivial),(by trivial),(by trivial)⟩
  ·obtain rfl:i=n:=by omega
   conv=>whnf
   repeat' ((first|refine Br.pf (by omega) ?_|refine CallS.q (eD1) rfl ?_|refine Ob.mk (by omega) ?_|refine Ix.of 1 rfl ?_|refine Pc.lit ?_|refine FinAt.val rfl ?_);conv=>whnf)
   all_goals rfl
theorem yCount0(s:W.Script)(p i:Int)(hb:ScrB s)(p0:1≤p)(p1:p≤1024)(hn:0≤i)(hnl:i≤s.ticks.length)(hl4:s.ticks.length≤4100)(hv:W.NumOk s i.toNat):Ret Tryz.prog 63 [scrV s,I p,I 0,I i] (·=I (s.count p 0 i.toNat)):=yCount s p i 0 (Nat.zero_le _) p0 p1 hn hnl hl4 hv
theorem yCount1(s:W.Script)(p i:Int)(hb:ScrB s)(p0:1≤p)(p1:p≤1024)(hn:0≤i)(hnl:i≤s.ticks.length)(hl4:s.ticks.length≤4100)(hv:W.NumOk s i.toNat):Ret Tryz.prog 63 [scrV s,I p,I 1,I i] (·=I (s.count p 1 i.toNat)):=yCount s p i 1 (Nat.le_refl _) p0 p1 hn hnl hl4 hv
theorem firstI_neg{p:Nat→Bool}{n:Nat}(h:¬ 0≤W.firstI p n):∀ j,j<n→p j=false:=fun j hj=>by
 unfold W.firstI at h
 cases e:(List.range n).find? p with
 |some i=>rw [e] at h;exact absurd (Int.natCast_nonneg i) h
 |none =>
  have:=List.find?_eq_none.1 e j (List.mem_range.2 hj)
  simpa using this
structure RChk(t:W.Trk):Prop where
 n:1≤t.segs.length∧t.segs.length≤200
 g:t.grps.length≤400
 sg:∀ i,i<t.segs.length→W.segMay (t.sg i) t.segs.length=true
 gp:∀ i,i<t.grps.length→W.grpMay t i=true
theorem RChk.of{t:W.Trk}(h:t.checkR.1=0):RChk t:=by
 unfold W.Trk.checkR at h
 split at h
 ·cases h
 ·next h1 =>
  split at h
  ·cases h
  ·next h2 =>
   split at h
   ·cases h
   ·next h3 =>
    refine⟨by omega,by omega,fun i hi=>?_,fun i hi=>?_⟩
    ·have:=firstI_neg h2 i hi
     simpa using this
    ·have:=firstI_neg h3 i hi
     simpa using this
theorem may_pieces{l:List W.Piece}{n:Int}(h:W.may l n=true):W.piecesOk l n=true:=by
 unfold W.may at h
 simp only [Bool.and_eq_true,decide_eq_true_eq] at h
 obtain⟨⟨h1,h2,h3⟩,h4⟩:=h
 unfold W.piecesOk
 simp only [Bool.and_eq_true,decide_eq_true_eq,List.all_eq_true,List.mem_range]
 refine⟨⟨by omega,h2,h3⟩,fun i hi=>?_⟩
 have:=W.allB_at h4 i hi
 unfold W.mayAt W.pieceAt at this
 simp only [decide_eq_true_eq] at this
 exact⟨this.1,this.2.1,this.2.2.1,fun h0=>this.2.2.2.resolve_left (by omega)⟩
theorem seg_ok{s:W.Seg}{n:Nat}(h:W.segMay s n=true):W.segOk n s=true:=by
 unfold W.segMay at h
 simp only [Bool.and_eq_true,decide_eq_true_eq] at h
 obtain⟨⟨⟨⟨h1,h2⟩,h3⟩,h4⟩,h5⟩:=h
 unfold W.segOk
 simp only [Bool.and_eq_true,decide_eq_true_eq,List.all_eq_true,List.mem_range]
 refine⟨⟨⟨h1,may_pieces h2⟩,h3⟩,fun i hi=>?_⟩
 have:=W.allB_at h4 i hi
 unfold W.nextAt at this
 simp only [decide_eq_true_eq] at this
 refine⟨this.1,this.2,fun h0=>?_⟩
 obtain rfl:i=1:=by omega
 exact h5.resolve_left (by omega)
theorem RChk.gr{t:W.Trk}(h:RChk t){i:Nat}(hi:i<t.grps.length):(W.lastId t i<(t.gp i).id∧(t.gp i).id≤65535∧0≤(t.gp i).seg∧(t.gp i).seg<t.segs.length∧0≤(t.gp i).offset∧(t.gp i).offset≤t.len (t.gp i).seg∧0≤(t.gp i).acc∧(t.gp i).acc≤1048576∧0≤(t.gp i).slack∧(t.gp i).slack≤16777216):=by
 have:=h.gp i hi
 unfold W.grpMay at this
 simpa only [decide_eq_true_eq] using this
theorem RChk.last{t:W.Trk}(h:RChk t):∀ i,i≤t.grps.length→0≤W.lastId t i
 |0,_=>Int.le_refl _
 |i+1,hi=>by
  have h1:=RChk.last h i (by omega)
  have h2:=(h.gr (i:=i) (by omega)).1
  show 0≤(t.gp i).id
  omega
theorem RChk.ok{t:W.Trk}(h:RChk t):TrkOk t:=by
 refine⟨h.n,h.g,fun i hi=>seg_ok (h.sg i hi),fun i hi=>?_⟩
 obtain⟨h1,h2,h3,h4,h5,h6,h7,h8,h9,h10⟩:=h.gr hi
 have hl:=h.last i (by omega)
 unfold W.grpOk
 simp only [Bool.and_eq_true,decide_eq_true_eq]
 have e:t.gp i=t.grps.getD i default:=rfl
 rw [e] at h1 h2 h3 h4 h5 h6 h7 h8 h9 h10
 refine⟨⟨by omega,h2,fun h0=>?_,h3,h4⟩,h5,h6,h7,h8,h9,h10⟩
 obtain⟨j,rfl⟩:∃ j,i=j+1:=⟨i-1,by omega⟩
 exact h1
theorem RChk.check{t:W.Trk}(h:RChk t):t.check.1=0:=by rw [h.ok.check]
theorem RChk.img{t:W.Trk}(h:RChk t):ImgOk t:=by
 have hok:=h.ok
 have hn:=h.n
 refine⟨fun s hs=>?_,fun g hg=>?_,by omega,h.g⟩
 ·obtain⟨i,hi,e⟩:=List.getElem_of_mem hs
  have hsi:=h.sg i hi
  have es:t.sg i=s:=by show t.segs.getD i default=s;simp [List.getD,hi,e]
  rw [es] at hsi
  unfold W.segMay at hsi
  simp only [Bool.and_eq_true,decide_eq_true_eq] at hsi
  obtain⟨⟨⟨⟨h1,h2⟩,h3⟩,h4⟩,h5⟩:=hsi
  unfold W.may at h2
  simp only [Bool.and_eq_true,decide_eq_true_eq] at h2
  obtain⟨⟨m1,m2,m3⟩,m4⟩:=h2
  refine⟨by omega,fun p hp=>?_,m2,fun x hx=>?_,h3⟩
  ·obtain⟨k,hk,ek⟩:=List.getElem_of_mem hp
   have hm:=W.allB_at m4 k hk
   have ep:W.pieceAt s.pieces k=p:=by show s.pieces.getD k default=p;simp [List.getD,hk,ek]
   unfold W.mayAt at hm
   simp only [decide_eq_true_eq] at hm
   rw [ep] at hm
   have h0:∀ j,j<s.pieces.length→0≤(W.pieceAt s.pieces j).from_:=fun j=>by
    induction j with
    |zero=>intro _;omega
    |succ j ih =>
     intro hj
     have h1:=ih (by omega)
     have h2:=W.allB_at m4 (j+1) hj
     unfold W.mayAt at h2
     simp only [decide_eq_true_eq] at h2
     have h3:=h2.2.2.2.resolve_left (by omega)
     rw [show j+1-1=j by omega] at h3
     omega
   have hp0:=h0 k hk
   rw [ep] at hp0
   exact⟨hp0,by omega,by omega,by omega⟩
  ·obtain⟨k,hk,ek⟩:=List.getElem_of_mem hx
   have hm:=W.allB_at h4 k hk
   unfold W.nextAt at hm
   simp only [decide_eq_true_eq] at hm
   have ep:s.next.getD k 0=x:=by simp [List.getD,hk,ek]
   rw [ep] at hm
   omega
 ·obtain⟨i,hi,e⟩:=List.getElem_of_mem hg
  have hgi:=h.gr hi
  have eg:t.gp i=g:=by show t.grps.getD i default=g;simp [List.getD,hi,e]
  have hl:=h.last i (by omega)
  have hlen:=hok.len (t.gp i).seg.toNat (by omega)
  have e2:t.len (t.gp i).seg=(t.segs.getD (t.gp i).seg.toNat default).length:=rfl
  rw [eg] at hgi hlen e2
  exact⟨by omega,by omega,by omega,by omega,by omega⟩
theorem RChk.trkI{t:W.Trk}(h:RChk t):TrkI t:=by
 have hn:=h.n
 have hg:=h.g
 refine⟨fun k hk=>?_,by omega,by omega⟩
 have hs:=h.img.sg (t.segs.getD k default) (by simp [List.getD,hk])
 have h1:=hs.len
 have h2:=hs.pn
 have h3:=hs.nn
 exact⟨by unfold W.I64;omega,by omega,by omega⟩
theorem wrongR_ok{c:W.Conf}(h:c.wrongR=0):c.wrong=0:=by
 unfold W.Conf.wrongR at h
 unfold W.Conf.wrong W.within
 repeat (split at h;· cases h)
 repeat (first|rw [if_neg (by omega)]|(exact if_pos rfl))
theorem yFits(c:W.Conf)(t:W.Trk)(h:t.segs.length≤1000000)(h2:t.grps.length≤1000000):Ret Tryz.prog 22 [confV c,trkV t] (·=.tup [I (W.fitsR c t).1,I (W.fitsR c t).2]):=by
 have hw:=yWrong13 c
 have hk:=yCheck11 t h h2
 unfold W.fitsR
 refine enterO tabOk (N:=60) (gs:=[]) (args:=[_,_]) Tryz.func22 rfl rfl rfl (nLe rfl) (fun E hE=>?_)
 by_cases h0:c.wrongR=0
 ·rw [if_neg (by simpa using h0)]
  by_cases h1:t.checkR.1=0
  ·rw [if_neg (by simpa using h1)]
   have hR:=RChk.of h1
   have hg4:=hR.g
   have hB:=(ConfOk.of (wrongR_ok h0)).b
   have hant:=hB.antenna
   have hmsp:=hB.maxSpeed
   conv=>whnf
   repeat' ((first|refine Br.nf (by assumption) ?_|refine CallS.q (hw) rfl ?_|refine CallS.q (hk) rfl ?_);conv=>whnf)
   refine LoopAt.rule tabOk [(2,_),(3,_)] (fun (i:Nat)=>[(8,.int .i64 (i:Int))]) (fun (i:Nat)=>[.blk (confC c),.blk [sgsV t.segs,gpsV t.grps]]) (fun (i:Nat)=>i≤t.grps.length∧∀ j,j<i→W.fitAtR c t j=true) (fun (i:Nat)=>t.grps.length-i) 0 (by trivial) ⟨Nat.zero_le _,fun j hj=>absurd hj (by omega)⟩ (by trivial) (by trivial) (fun _=>⟨rfl,rfl,rfl,by simp [hE]⟩) (fun i hk=>?_)
   obtain⟨hk,hno⟩:=hk
   by_cases hlt:i<t.grps.length
   ·have hgr:=hR.gr hlt
    have hlen:=hR.ok.len (t.gp i).seg.toNat (by omega)
    have e:W.fitAtR c t i=decide ((t.gp i).acc+c.antenna+c.maxSpeed≤(t.gp i).offset∧(t.gp i).acc+c.antenna+c.maxSpeed≤(t.segs.getD (t.gp i).seg.toNat default).length-(t.gp i).offset):=rfl
    have eg:t.grps.getD i default=t.gp i:=rfl
    rw [← eg] at hgr hlen e
    have e2:t.len (t.grps.getD i default).seg=(t.segs.getD (t.grps.getD i default).seg.toNat default).length:=rfl
    rw [e2] at hgr
    have hit:W.fitAtR c t i=false→(AV.tup [I 11,I (i:Int)])=.tup [I (if 0≤W.firstI (fun i=>!W.fitAtR c t i) t.grps.length then ((11:Int),W.firstI (fun i=>!W.fitAtR c t i) t.grps.length) else (0,0)).1,I (if 0≤W.firstI (fun i=>!W.fitAtR c t i) t.grps.length then ((11:Int),W.firstI (fun i=>!W.fitAtR c t i) t.grps.length) else (0,0)).2]:=fun hf=>by
     rw [W.firstI_hit (k:=i) (fun j hj=>by rw [hno j hj];rfl) hlt (by rw [hf];rfl),if_pos (by omega)]
    conv=>whnf
    repeat' (first|((first|refine Br.pt (by assumption) ?_|refine Br.pf (by assumption) ?_|refine Br.pt (by omega) ?_|refine Br.ot rfl ?_|refine Ob.mk (by omega) ?_|refine Ob.mk (by unfold W.I64 at *;omega) ?_|refine Drw.loose (by kernel_rfl) ?_|refine Ix.nat _ ?_|refine Ix.tn (by omega) ?_|refine FinAt.val rfl ?_);conv=>whnf)|((refine Br.d (fun h=>?_) (fun h=>?_))<;>conv=>whnf))
    all_goals first
     |exact hit (by rw [e];exact decide_eq_false (by omega))
     |exact⟨i+1,⟨by omega,fun j hj=>by
       rcases Nat.lt_or_ge j i with q|q
       ·exact hno j q
       ·obtain rfl:j=i:=by omega
        rw [e];exact decide_eq_true (by omega)⟩,by omega,(by trivial),(by trivial),(by trivial)⟩
   ·obtain rfl:i=t.grps.length:=by omega
    conv=>whnf
    repeat' ((first|refine Br.pf (by omega) ?_|refine FinAt.val rfl ?_);conv=>whnf)
    rw [W.firstI_none (fun j hj=>by rw [hno j hj];rfl),if_neg (by omega)]
    rfl
  ·rw [if_pos h1]
   conv=>whnf
   repeat' ((first|refine Br.nt (by assumption) ?_|refine Br.nf (by assumption) ?_|refine CallS.q (hw) rfl ?_|refine CallS.q (hk) rfl ?_|refine FinAt.val rfl ?_);conv=>whnf)
   rfl
 ·rw [if_pos h0]
  conv=>whnf
  repeat' ((first|refine Br.nt (by assumption) ?_|refine CallS.q (hw) rfl ?_|refine FinAt.val rfl ?_);conv=>whnf)
  rfl
structure SGo(c:W.Conf)(s:W.Script):Prop where
 c:ConfB c
 n:s.ticks.length≤4096
 num:W.NumOk s s.ticks.length
 rad:∀ k,k<s.ticks.length→-1073741824≤(s.tick k).rad∧(s.tick k).rad≤1073741824
theorem yFit(s:W.Script)(i k:Nat)(hi:i≤2)(hk:k<s.ticks.length)(hn:s.ticks.length≤4096):Ret Tryz.prog 40 [scrV s,I i,I k] (·=.bool (W.fitS s i k)):=by
 obtain rfl|rfl|rfl:i=0∨i=1∨i=2:=by omega
 all_goals
  refine enterO tabOk (N:=34) (gs:=[]) (args:=[_,_,_]) Tryz.func40 rfl rfl rfl (nLe rfl) (fun E hE=>?_)
  unfold W.fitS
  by_cases h0:k=0
  ·subst h0
   conv=>whnf
   repeat' (first|((first|refine Br.pt (by omega) ?_|refine Br.pf (by omega) ?_|refine Ob.mk (by omega) ?_|refine Ix.of 0 rfl ?_|refine Ix.of 1 rfl ?_|refine Ix.nat _ ?_|refine FinAt.val rfl ?_);conv=>whnf)|((refine Br.d (fun h=>?_) (fun h=>?_))<;>conv=>whnf))
   all_goals
    show AV.bool _=AV.bool _
    congr 1
    simp_all [W.Script.tick,W.Tick.lost]
  ·obtain⟨j,rfl⟩:∃ j,k=j+1:=⟨k-1,by omega⟩
   have e:(((j+1:Nat):Int)-1).toNat=j:=by omega
   conv=>whnf
   repeat' (first|((first|refine Br.pt (by omega) ?_|refine Br.pf (by omega) ?_|refine Ob.mk (by omega) ?_|refine Ob.mk (by unfold W.I64 at *;omega) ?_|refine Ix.of 0 rfl ?_|refine Ix.of 1 rfl ?_|refine Ix.nat _ ?_|refine Ix.tn (by omega) ?_|refine FinAt.val rfl ?_);conv=>whnf)|((refine Br.d (fun h=>?_) (fun h=>?_))<;>conv=>whnf))
   all_goals
    show AV.bool _=AV.bool _
    congr 1
    simp_all [W.Script.tick,W.Tick.lost]
theorem yWrong28(c:W.Conf)(s:W.Script)(i k:Nat)(hi:i≤2)(hk:k<s.ticks.length)(hg:SGo c s):Ret Tryz.prog 41 [confV c,scrV s,I i,I k] (·=.bool (W.wrongS c s i k)):=by
 have hc:=hg.c
 have hn:=hg.n
 have hv:=hg.num.v k hk
 have hr:=hg.rad k hk
 have hE:=W.errorR_bd c ((s.tick k).v+(s.tick k).rad) hc.radBase.1 hc.radBase.2 hc.radPart.1 hc.radPart.2 (by omega) (by omega)
 have e1:=yError c ((s.tick k).v+(s.tick k).rad) hc.radBase.1 hc.radBase.2 hc.radPart.1 hc.radPart.2 (by omega) (by omega)
 have e2:=yFar (s.tick k).rad (c.errorR ((s.tick k).v+(s.tick k).rad)) (by omega) (by omega)
 have et:s.tick k=s.ticks.getD k default:=rfl
 rw [et] at hv hr hE e1 e2
 obtain rfl|rfl|rfl:i=0∨i=1∨i=2:=by omega
 all_goals
  refine enterO tabOk (N:=32) (gs:=[]) (args:=[_,_,_,_]) Tryz.func41 rfl rfl rfl (nLe rfl) (fun E hEE=>?_)
  have hE':=hEE
  conv=>whnf
  repeat' ((first|refine Br.pt (by omega) ?_|refine Br.pf (by omega) ?_|refine CallX.pu (e1) rfl rfl ?_|refine CallX.pu (e2) rfl rfl ?_|refine Ob.mk (by omega) ?_|refine Ob.mk (by unfold W.I64 at *;omega) ?_|refine Drw.loose (by kernel_rfl) ?_|refine Ix.of 0 rfl ?_|refine Ix.of 1 rfl ?_|refine Ix.nat _ ?_|refine Pc.lit ?_|refine FinAt.val rfl ?_);conv=>whnf)
  all_goals
   show AV.bool _=AV.bool _
   congr 1
   try (first|rfl|simp [W.wrongS,W.Tick.slip,W.Script.tick])
theorem QAt.remR{P:Program}{o:Oper}{tm:Tm}{own:Ow}{K:AV→Prop}{t t':TypeId}{x y:Operand}{p:Int}(ho:o.op=.binOp .rem t x y t')(hx:ev tm x fun v=>v=.raw (.int .i64 p))(hy:ev tm y fun v=>v=I 65536)(hK:K (I (p.tmod 65536))):QAt P o tm own K :=
 QAt.bin ho hx hy rfl rfl (r:=I (p.tmod 65536)) rfl (fun w=>by
  simp only [val]
  rw [Sem.run_bind,guard_int]
  rfl) hK
theorem yCountR(s:W.Script)(p i:Int)(j:Nat)(hj:j≤1)(hb:ScrB s)(p0:1≤p)(p1:p≤1024)(hn:0≤i)(hnl:i≤s.ticks.length)(hl4:s.ticks.length≤4100)(hv:W.NumOk s i.toNat):Ret Tryz.prog 63 [scrV s,I p,I j,I i] (·=.raw (.int .i64 (s.count p j i.toNat))):=by
 obtain rfl|rfl:j=0∨j=1:=by omega
 ·intro S w bs Vs hG hlt hV
  exact(yCount0 s p i hb p0 p1 hn hnl hl4 hv S w bs Vs hG hlt hV).mono fun e w' ⟨r,V,gs',bs',S',g1,g2,g3,g4⟩=>by
   subst g2
   exact⟨_,V,gs',bs',S',g1,rfl,g3,g4⟩
 ·intro S w bs Vs hG hlt hV
  exact(yCount1 s p i hb p0 p1 hn hnl hl4 hv S w bs Vs hG hlt hV).mono fun e w' ⟨r,V,gs',bs',S',g1,g2,g3,g4⟩=>by
   subst g2
   exact⟨_,V,gs',bs',S',g1,rfl,g3,g4⟩
theorem tmod_e(x:Int):(x.tmod 65536+65536)%65536=x%65536:=by
 have h1:=Int.tmod_eq_emod (a:=x) (b:=65536)
 rw [h1]
 split<;>omega
theorem W.NumOk.le{s:W.Script}{n m:Nat}(h:W.NumOk s n)(hm:m≤n):W.NumOk s m:=⟨fun k hk=>h.v k (by omega),fun k hk=>h.slip0 k (by omega),fun k hk=>h.slip1 k (by omega),h.phase0,h.phase1,h.circ0,h.circ1⟩
theorem tmod_b(x:Int):-65535≤x.tmod 65536∧x.tmod 65536≤65535:=by
 have h1:=Int.tmod_eq_emod (a:=x) (b:=65536)
 rw [h1]
 split<;>omega
theorem deltaR_lo(a b:Int):-32768≤W.deltaR a b:=by
 show -32768≤(if 32768≤(b-a+65536)%65536 then (b-a+65536)%65536-65536 else (b-a+65536)%65536)
 split<;>omega
theorem deltaR_hi(a b:Int):W.deltaR a b≤32767:=by
 show (if 32768≤(b-a+65536)%65536 then (b-a+65536)%65536-65536 else (b-a+65536)%65536)≤32767
 split<;>omega
theorem ySays(c:W.Conf)(s:W.Script)(i k:Nat)(hi:i≤2)(hk:k<s.ticks.length)(hb:ScrB s)(hg:SGo c s):Ret Tryz.prog 42 [confV c,scrV s,I i,I k] (·=.agg [I (W.saysS c s i k).1,I (W.saysS c s i k).2]):=by
 have hc:=hg.c
 have hn:=hg.n
 have hv:=hg.num.v k hk
 have hr:=hg.rad k hk
 have nk:=W.NumOk.le hg.num (m:=k) (by omega)
 have nk1:=W.NumOk.le hg.num (m:=k+1) (by omega)
 have eR:=yRadar c ((s.tick k).v+(s.tick k).rad) hc.radBase.1 hc.radBase.2 hc.radPart.1 hc.radPart.2 (by omega) (by omega)
 have eC (j:Nat) (hj:j≤1):Ret Tryz.prog 63 [scrV s,I c.pulses,I j,I k] (·=.raw (.int .i64 (s.count c.pulses j k))):=yCountR s c.pulses k j hj hb hc.pulses.1 hc.pulses.2 (by omega) (by omega) (by omega) nk
 have eC1 (j:Nat) (hj:j≤1):Ret Tryz.prog 63 [scrV s,I c.pulses,I j,I (k+1)] (·=.raw (.int .i64 (s.count c.pulses j (k+1)))):=yCountR s c.pulses (k+1) j hj hb hc.pulses.1 hc.pulses.2 (by omega) (by omega) (by omega) nk1
 have eD (x y:Int):Ret Tryz.prog 71 [I ((x.tmod 65536+65536)%65536),I ((y.tmod 65536+65536)%65536)] (·=I (W.deltaR (x%65536) (y%65536))):=by
  rw [tmod_e,tmod_e]
  exact yDelta _ _ (by omega) (by omega) (by omega) (by omega)
 have eT (x y:Int):=yTacho (W.deltaR (x%65536) (y%65536)) c.circLo c.circHi c.pulses (deltaR_lo _ _) (deltaR_hi _ _) (by have:=hc.circLo.1;omega) hc.circLo.2 (by have:=hc.circLo.1;have:=hc.circHi.1;omega) hc.circHi.2 hc.pulses.1 hc.pulses.2
 have et:s.tick k=s.ticks.getD k default:=rfl
 rw [et] at hv hr eR
 obtain rfl|rfl|rfl:i=0∨i=1∨i=2:=by omega
 ·have b0:=tmod_b (s.count c.pulses 0 k)
  have b1:=tmod_b (s.count c.pulses 0 (k+1))
  refine enterO tabOk (N:=75) (gs:=[]) (args:=[_,_,_,_]) Tryz.func42 rfl rfl rfl (nLe rfl) (fun E hEE=>?_)
  have hE':=hEE
  conv=>whnf
  repeat' ((first|refine QAt.remR rfl rfl rfl ?_|refine Br.pf (by omega) ?_|refine CallS.q (eC 0 (by omega)) rfl ?_|refine CallS.q (eC1 0 (by omega)) rfl ?_|refine CallS.q (eD _ _) rfl ?_|refine CallS.q (eT _ _) rfl ?_|refine Ob.mk (by omega) ?_|refine Ob.mk (by unfold W.I64 at *;omega) ?_|refine FinAt.val rfl ?_);conv=>whnf)
  all_goals rfl
 ·have b0:=tmod_b (s.count c.pulses 1 k)
  have b1:=tmod_b (s.count c.pulses 1 (k+1))
  refine enterO tabOk (N:=75) (gs:=[]) (args:=[_,_,_,_]) Tryz.func42 rfl rfl rfl (nLe rfl) (fun E hEE=>?_)
  have hE':=hEE
  conv=>whnf
  repeat' ((first|refine QAt.remR rfl rfl rfl ?_|refine Br.pf (by omega) ?_|refine CallS.q (eC 1 (by omega)) rfl ?_|refine CallS.q (eC1 1 (by omega)) rfl ?_|refine CallS.q (eD _ _) rfl ?_|refine CallS.q (eT _ _) rfl ?_|refine Ob.mk (by omega) ?_|refine Ob.mk (by unfold W.I64 at *;omega) ?_|refine FinAt.val rfl ?_);conv=>whnf)
  all_goals rfl
 ·refine enterO tabOk (N:=75) (gs:=[]) (args:=[_,_,_,_]) Tryz.func42 rfl rfl rfl (nLe rfl) (fun E hEE=>?_)
  have hE':=hEE
  conv=>whnf
  repeat' ((first|refine Br.pt (by omega) ?_|refine CallX.pu (eR) rfl rfl ?_|refine Ob.mk (by omega) ?_|refine Ob.mk (by unfold W.I64 at *;omega) ?_|refine Drw.loose (by kernel_rfl) ?_|refine Ix.nat _ ?_|refine FinAt.val rfl ?_);conv=>whnf)
  all_goals rfl
end Y
section
namespace W
def manyN(l:List Sp)(x:Int):Nat→Nat
 |0=>0
 |n+1=>manyN l x n+if (l.getD n ⟨0,0⟩).lo≤x∧x≤(l.getD n ⟨0,0⟩).hi then 1 else 0
theorem manyN_le(l:List Sp)(x:Int)(n:Nat):manyN l x n≤n:=by
 induction n with
 |zero=>exact Nat.le_refl _
 |succ n ih=>unfold manyN;split<;>omega
theorem manyN_s(l:List Sp)(x:Int)(n:Nat):manyN l x (n+1)=manyN l x n+if (l.getD n ⟨0,0⟩).lo≤x∧x≤(l.getD n ⟨0,0⟩).hi then 1 else 0:=rfl
def byF(l:List Sp)(m:Int):Nat→Int×Bool
 |0=>(0,false)
 |n+1=>if m≤manyN l (l.getD n ⟨0,0⟩).lo l.length∧((byF l m n).2=false∨(l.getD n ⟨0,0⟩).lo<(byF l m n).1) then ((l.getD n ⟨0,0⟩).lo,true) else byF l m n
def byT(l:List Sp)(m:Int):Nat→Int×Bool
 |0=>(0,false)
 |n+1=>if m≤manyN l (l.getD n ⟨0,0⟩).hi l.length∧((byT l m n).2=false∨(byT l m n).1<(l.getD n ⟨0,0⟩).hi) then ((l.getD n ⟨0,0⟩).hi,true) else byT l m n
theorem byF_s(l:List Sp)(m:Int)(n:Nat):byF l m (n+1)=if m≤manyN l (l.getD n ⟨0,0⟩).lo l.length∧((byF l m n).2=false∨(l.getD n ⟨0,0⟩).lo<(byF l m n).1) then ((l.getD n ⟨0,0⟩).lo,true) else byF l m n:=rfl
theorem byT_s(l:List Sp)(m:Int)(n:Nat):byT l m (n+1)=if m≤manyN l (l.getD n ⟨0,0⟩).hi l.length∧((byT l m n).2=false∨(byT l m n).1<(l.getD n ⟨0,0⟩).hi) then ((l.getD n ⟨0,0⟩).hi,true) else byT l m n:=rfl
theorem byF_iff(l:List Sp)(m:Int)(n:Nat):(byF l m n).2=true↔∃ j,j<n∧m≤manyN l (l.getD j ⟨0,0⟩).lo l.length:=by
 induction n with
 |zero=>exact⟨fun h=>by simp [byF] at h,fun ⟨j,hj,_⟩=>by omega⟩
 |succ n ih =>
  rw [byF_s]
  split
  ·rename_i h
   exact⟨fun _=>⟨n,by omega,h.1⟩,fun _=>rfl⟩
  ·rename_i h
   rw [ih]
   refine⟨fun ⟨j,hj,hm⟩=>⟨j,by omega,hm⟩,fun ⟨j,hj,hm⟩=>?_⟩
   rcases Nat.lt_or_ge j n with q|q
   ·exact⟨j,q,hm⟩
   ·obtain rfl:j=n:=by omega
    have:(byF l m j).2=true:=by
     cases e:(byF l m j).2
     ·exact absurd ⟨hm,.inl e⟩ h
     ·rfl
    exact ih.1 this
theorem byT_iff(l:List Sp)(m:Int)(n:Nat):(byT l m n).2=true↔∃ j,j<n∧m≤manyN l (l.getD j ⟨0,0⟩).hi l.length:=by
 induction n with
 |zero=>exact⟨fun h=>by simp [byT] at h,fun ⟨j,hj,_⟩=>by omega⟩
 |succ n ih =>
  rw [byT_s]
  split
  ·rename_i h
   exact⟨fun _=>⟨n,by omega,h.1⟩,fun _=>rfl⟩
  ·rename_i h
   rw [ih]
   refine⟨fun ⟨j,hj,hm⟩=>⟨j,by omega,hm⟩,fun ⟨j,hj,hm⟩=>?_⟩
   rcases Nat.lt_or_ge j n with q|q
   ·exact⟨j,q,hm⟩
   ·obtain rfl:j=n:=by omega
    have:(byT l m j).2=true:=by
     cases e:(byT l m j).2
     ·exact absurd ⟨hm,.inl e⟩ h
     ·rfl
    exact ih.1 this
theorem by_common(a b c:Int×Int):((byF [⟨a.1,a.2⟩,⟨b.1,b.2⟩,⟨c.1,c.2⟩] 3 3).2&&(byT [⟨a.1,a.2⟩,⟨b.1,b.2⟩,⟨c.1,c.2⟩] 3 3).2)=commonS a b c:=by
 have e (x:Int):(3:Int)≤manyN [⟨a.1,a.2⟩,⟨b.1,b.2⟩,⟨c.1,c.2⟩] x 3↔(a.1≤x∧x≤a.2)∧(b.1≤x∧x≤b.2)∧(c.1≤x∧x≤c.2):=by
  have e1:manyN [⟨a.1,a.2⟩,⟨b.1,b.2⟩,⟨c.1,c.2⟩] x 3=0+(if a.1≤x∧x≤a.2 then 1 else 0)+(if b.1≤x∧x≤b.2 then 1 else 0)+(if c.1≤x∧x≤c.2 then 1 else 0):=rfl
  rw [e1]
  constructor
  ·intro h
   split at h<;>split at h<;>split at h<;>first|(simp at h;done)|exact⟨‹_›,‹_›,‹_›⟩
  ·rintro ⟨h1,h2,h3⟩
   rw [if_pos h1,if_pos h2,if_pos h3]
   decide
 have hF:=byF_iff [⟨a.1,a.2⟩,⟨b.1,b.2⟩,⟨c.1,c.2⟩] 3 3
 have hT:=byT_iff [⟨a.1,a.2⟩,⟨b.1,b.2⟩,⟨c.1,c.2⟩] 3 3
 have hl:([⟨a.1,a.2⟩,⟨b.1,b.2⟩,⟨c.1,c.2⟩]:List Sp).length=3:=rfl
 rw [hl] at hF hT
 simp only [e] at hF hT
 rw [Bool.eq_iff_iff,Bool.and_eq_true,hF,hT]
 unfold commonS
 rw [decide_eq_true_eq]
 constructor
 ·rintro ⟨⟨j,hj,h1,h2,h3⟩,-⟩
  omega
 ·intro h
  constructor
  ·rcases Int.le_total a.1 b.1 with q|q<;>rcases Int.le_total b.1 c.1 with q2|q2<;>rcases Int.le_total a.1 c.1 with q3|q3
   all_goals first
    |exact⟨0,by omega,by simp only [List.getD];simp;omega⟩
    |exact⟨1,by omega,by simp only [List.getD];simp;omega⟩
    |exact⟨2,by omega,by simp only [List.getD];simp;omega⟩
  ·rcases Int.le_total a.2 b.2 with q|q<;>rcases Int.le_total b.2 c.2 with q2|q2<;>rcases Int.le_total a.2 c.2 with q3|q3
   all_goals first
    |exact⟨0,by omega,by simp only [List.getD];simp;omega⟩
    |exact⟨1,by omega,by simp only [List.getD];simp;omega⟩
    |exact⟨2,by omega,by simp only [List.getD];simp;omega⟩
def fitN(s:Script)(k:Nat):Nat→Nat
 |0=>0
 |n+1=>fitN s k n+b2n (fitS s n k)
def wrN(c:Conf)(s:Script)(k:Nat):Nat→Nat
 |0=>0
 |n+1=>wrN c s k n+b2n (fitS s n k&&wrongS c s n k)
theorem fitN_s(s:Script)(k n:Nat):fitN s k (n+1)=fitN s k n+b2n (fitS s n k):=rfl
theorem wrN_s(c:Conf)(s:Script)(k n:Nat):wrN c s k (n+1)=wrN c s k n+b2n (fitS s n k&&wrongS c s n k):=rfl
theorem sensors_e(c:Conf)(s:Script)(k:Nat):sensorsMay c s k=if wrN c s k 3=0 then true else if 1<wrN c s k 3∨fitN s k 3<3 then false else !commonS (saysS c s 0 k) (saysS c s 1 k) (saysS c s 2 k):=by
 unfold sensorsMay
 have e1:wrN c s k 3=b2n (fitS s 0 k&&wrongS c s 0 k)+b2n (fitS s 1 k&&wrongS c s 1 k)+b2n (fitS s 2 k&&wrongS c s 2 k):=by
  rw [wrN_s,wrN_s,wrN_s];show 0+_+_+_=_;omega
 have e2:fitN s k 3=b2n (fitS s 0 k)+b2n (fitS s 1 k)+b2n (fitS s 2 k):=by
  rw [fitN_s,fitN_s,fitN_s];show 0+_+_+_=_;omega
 rw [e1,e2]
end W
namespace Y
open Go Go.RowKit Go.Sort
theorem yMany(l:List W.Sp)(x:Int)(hl:l.length≤1000000):Ret Tryz.prog 73 [spsV l,I x] (·=I (W.manyN l x l.length)):=by
 refine enterO tabOk (N:=32) (gs:=[]) (args:=[_,_]) Tryz.func73 rfl rfl rfl (nLe rfl) (fun E hE=>?_)
 conv=>whnf
 refine LoopAt.rule tabOk [(0,_),(1,_),(4,_)] (fun (i:Nat×Nat)=>[(6,.int .i64 (i.1:Int)),(5,.int .i64 (i.2:Int))]) (fun (i:Nat×Nat)=>[]) (fun (i:Nat×Nat)=>i.1≤l.length∧i.2=W.manyN l x i.1) (fun (i:Nat×Nat)=>l.length-i.1) (0,0) (by trivial) ⟨Nat.zero_le _,rfl⟩ (by trivial) (by trivial) (fun _=>⟨rfl,rfl,rfl,by simp [hE]⟩) (fun i hk=>?_)
 obtain⟨i,k⟩:=i
 obtain⟨hk,hm⟩:=hk
 dsimp only at hk hm ⊢
 have hm2:=W.manyN_le l x i
 by_cases hlt:i<l.length
 ·have es:=W.manyN_s l x i
  conv=>whnf
  repeat' (first|((first|refine Br.pt (by assumption) ?_|refine Br.pf (by assumption) ?_|refine Br.pt (by omega) ?_|refine Br.of rfl ?_|refine Ob.mk (by omega) ?_|refine Ob.mk (by unfold W.I64 at *;omega) ?_|refine Ix.nat _ ?_);conv=>whnf)|((refine Br.d (fun h=>?_) (fun h=>?_))<;>conv=>whnf))
  ·refine⟨(i+1,k+1),⟨hlt,?_⟩,?_,(by trivial),(by trivial),(by trivial)⟩
   ·dsimp only;rw [es,if_pos (by constructor<;>assumption),hm]
   ·dsimp only;omega
  ·refine⟨(i+1,k),⟨hlt,?_⟩,?_,(by trivial),(by trivial),(by trivial)⟩
   ·dsimp only;rw [es,if_neg (by omega),hm];rfl
   ·dsimp only;omega
  ·refine⟨(i+1,k),⟨hlt,?_⟩,?_,(by trivial),(by trivial),(by trivial)⟩
   ·dsimp only;rw [es,if_neg (by omega),hm];rfl
   ·dsimp only;omega
 ·obtain rfl:i=l.length:=by omega
  conv=>whnf
  repeat' ((first|refine Br.pf (by omega) ?_|refine FinAt.val rfl ?_);conv=>whnf)
  rw [hm]
  rfl
theorem yBy(l:List W.Sp)(m:Int)(hl:l.length≤1000000):Ret Tryz.prog 43 [spsV l,I m] (·=.tup [.agg [I (W.byF l m l.length).1,I (W.byT l m l.length).1],.bool ((W.byF l m l.length).2&&(W.byT l m l.length).2)]):=by
 have eM (x:Int):=yMany l x hl
 refine enterO tabOk (N:=86) (gs:=[]) (args:=[_,_]) Tryz.func43 rfl rfl rfl (nLe rfl) (fun E hE=>?_)
 conv=>whnf
 refine LoopAt.rule tabOk [(0,_),(1,_),(4,_),(5,_),(6,_)] (fun (i:Nat×Int×Bool)=>[(8,.int .i64 (i.1:Int)),(7,.bool i.2.2)]) (fun (i:Nat×Int×Bool)=>[.blk [I 0,I 0],.blk [I i.2.1,I 0]]) (fun (i:Nat×Int×Bool)=>i.1≤l.length∧i.2=W.byF l m i.1) (fun (i:Nat×Int×Bool)=>l.length-i.1) (0,0,false) (by trivial) ⟨Nat.zero_le _,rfl⟩ (by trivial) (by trivial) (fun _=>⟨rfl,rfl,rfl,by simp [hE]⟩) (fun i hk=>?_)
 ·obtain⟨i,a,f⟩:=i
  obtain⟨hk,hm⟩:=hk
  dsimp only at hk hm ⊢
  by_cases hlt:i<l.length
  ·have es:=W.byF_s l m i
   rw [← hm] at es
   dsimp only at es
   conv=>whnf
   repeat' (first|((first|refine Br.ot (by assumption) ?_|refine Br.of (by assumption) ?_|refine Br.pt (by assumption) ?_|refine Br.pf (by assumption) ?_|refine Br.pt (by omega) ?_|refine Br.ot rfl ?_|refine Br.of rfl ?_|refine CallX.pu (eM _) rfl rfl ?_|refine Ob.mk (by omega) ?_|refine Ob.mk (by unfold W.I64 at *;omega) ?_|refine Drw.loose (by kernel_rfl) ?_|refine Ix.nat _ ?_);conv=>whnf)|((first|refine Br.d (fun h=>?_) (fun h=>?_)|refine Br.mk (fun h=>?_) (fun h=>?_))<;>conv=>whnf))
   ·refine⟨(i+1,(l.getD i ⟨0,0⟩).lo,true),⟨hlt,?_⟩,?_,(by trivial),(by trivial),(by trivial)⟩
    ·dsimp only
     rw [es,if_pos ⟨by assumption,.inl (by simpa using ‹(!f)=true›)⟩]
    ·dsimp only;omega
   ·refine⟨(i+1,(l.getD i ⟨0,0⟩).lo,true),⟨hlt,?_⟩,?_,(by trivial),(by trivial),(by trivial)⟩
    ·dsimp only
     rw [es,if_pos ⟨by assumption,.inr (by assumption)⟩]
    ·dsimp only;omega
   ·refine⟨(i+1,a,f),⟨hlt,?_⟩,?_,(by trivial),(by trivial),(by trivial)⟩
    ·dsimp only
     rw [es,if_neg (fun q=>q.2.elim (fun q2=>by simp_all) (fun q2=>absurd q2 (by assumption)))]
    ·dsimp only;omega
   ·refine⟨(i+1,a,f),⟨hlt,?_⟩,?_,(by trivial),(by trivial),(by trivial)⟩
    ·dsimp only
     rw [es,if_neg (fun q=>absurd q.1 (by assumption))]
    ·dsimp only;omega
  ·obtain rfl:i=l.length:=by omega
   conv=>whnf
   repeat' ((refine Br.pf (by omega) ?_);conv=>whnf)
   refine LoopAt.rule tabOk [(0,_),(1,_),(4,_),(5,_),(6,_),(7,_)] (fun (i:Nat×Int×Bool)=>[(10,.int .i64 (i.1:Int)),(9,.bool i.2.2)]) (fun (i:Nat×Int×Bool)=>[.blk [I 0,I 0],.blk [I a,I i.2.1]]) (fun (i:Nat×Int×Bool)=>i.1≤l.length∧i.2=W.byT l m i.1) (fun (i:Nat×Int×Bool)=>l.length-i.1) (0,0,false) (by trivial) ⟨Nat.zero_le _,rfl⟩ (by trivial) (by trivial) (fun _=>⟨rfl,rfl,rfl,by simp [hE]⟩) (fun i hk=>?_)
   obtain⟨i,b,g⟩:=i
   obtain⟨hk,hn⟩:=hk
   dsimp only at hk hn ⊢
   by_cases hlt:i<l.length
   ·have es:=W.byT_s l m i
    rw [← hn] at es
    dsimp only at es
    conv=>whnf
    repeat' (first|((first|refine Br.ot (by assumption) ?_|refine Br.of (by assumption) ?_|refine Br.pt (by assumption) ?_|refine Br.pf (by assumption) ?_|refine Br.pt (by omega) ?_|refine Br.ot rfl ?_|refine Br.of rfl ?_|refine CallX.pu (eM _) rfl rfl ?_|refine Ob.mk (by omega) ?_|refine Ob.mk (by unfold W.I64 at *;omega) ?_|refine Drw.loose (by kernel_rfl) ?_|refine Ix.nat _ ?_);conv=>whnf)|((first|refine Br.d (fun h=>?_) (fun h=>?_)|refine Br.mk (fun h=>?_) (fun h=>?_))<;>conv=>whnf))
    ·refine⟨(i+1,(l.getD i ⟨0,0⟩).hi,true),⟨hlt,?_⟩,?_,(by trivial),(by trivial),(by trivial)⟩
     ·dsimp only
      rw [es,if_pos ⟨by assumption,.inl (by simpa using ‹(!g)=true›)⟩]
     ·dsimp only;omega
    ·refine⟨(i+1,(l.getD i ⟨0,0⟩).hi,true),⟨hlt,?_⟩,?_,(by trivial),(by trivial),(by trivial)⟩
     ·dsimp only
      rw [es,if_pos ⟨by assumption,.inr (by assumption)⟩]
     ·dsimp only;omega
    ·refine⟨(i+1,b,g),⟨hlt,?_⟩,?_,(by trivial),(by trivial),(by trivial)⟩
     ·dsimp only
      rw [es,if_neg (fun q=>q.2.elim (fun q2=>by simp_all) (fun q2=>absurd q2 (by assumption)))]
     ·dsimp only;omega
    ·refine⟨(i+1,b,g),⟨hlt,?_⟩,?_,(by trivial),(by trivial),(by trivial)⟩
     ·dsimp only
      rw [es,if_neg (fun q=>absurd q.1 (by assumption))]
     ·dsimp only;omega
   ·obtain rfl:i=l.length:=by omega
    rw [← hm,← hn]
    conv=>whnf
    repeat' (first|((first|refine Br.ot (by assumption) ?_|refine Br.of (by assumption) ?_|refine Br.pf (by omega) ?_|refine FinAt.val rfl ?_);conv=>whnf)|((refine Br.mk (fun h=>?_) (fun h=>?_))<;>conv=>whnf))
    all_goals simp_all
    all_goals rfl
theorem ySensors(c:W.Conf)(s:W.Script)(k:Nat)(hk:k<s.ticks.length)(hb:ScrB s)(hg:SGo c s):Ret Tryz.prog 27 [confV c,scrV s,I k] (·=.bool (W.sensorsMay c s k)):=by
 have hn:=hg.n
 have eF (i:Nat) (hi:i≤2):=yFit s i k hi hk hn
 have eW (i:Nat) (hi:i≤2):=yWrong28 c s i k hi hk hg
 have s0:=ySays c s 0 k (by omega) hk hb hg
 have s1:=ySays c s 1 k (by omega) hk hb hg
 have s2:=ySays c s 2 k (by omega) hk hb hg
 have eB:=yBy [⟨(W.saysS c s 0 k).1,(W.saysS c s 0 k).2⟩,⟨(W.saysS c s 1 k).1,(W.saysS c s 1 k).2⟩,⟨(W.saysS c s 2 k).1,(W.saysS c s 2 k).2⟩] 3 (by simp)
 have ec:=W.by_common (W.saysS c s 0 k) (W.saysS c s 1 k) (W.saysS c s 2 k)
 rw [show (([⟨(W.saysS c s 0 k).1,(W.saysS c s 0 k).2⟩,⟨(W.saysS c s 1 k).1,(W.saysS c s 1 k).2⟩,⟨(W.saysS c s 2 k).1,(W.saysS c s 2 k).2⟩]:List W.Sp)).length=3 from rfl,ec] at eB
 rw [W.sensors_e]
 refine enterO tabOk (N:=58) (gs:=[]) (args:=[_,_,_]) Tryz.func27 rfl rfl rfl (nLe rfl) (fun E hE=>?_)
 conv=>whnf
 refine LoopAt.rule tabOk [(2,_),(3,_),(4,_),(6,_)] (fun (i:Nat×Nat×Nat)=>[(9,.int .i64 (i.1:Int)),(7,.int .i64 (i.2.1:Int)),(8,.int .i64 (i.2.2:Int))]) (fun (i:Nat×Nat×Nat)=>[.blk (confC c),.blk (scrC s)]) (fun (i:Nat×Nat×Nat)=>i.1≤3∧i.2.1=W.fitN s k i.1∧i.2.2=W.wrN c s k i.1∧i.2.1≤i.1∧i.2.2≤i.1) (fun (i:Nat×Nat×Nat)=>3-i.1) (0,0,0) (by trivial) ⟨by omega,rfl,rfl,Nat.le_refl _,Nat.le_refl _⟩ (by trivial) (by trivial) (fun _=>⟨rfl,rfl,rfl,by simp [hE]⟩) (fun i hk=>?_)
 obtain⟨i,f,w⟩:=i
 obtain⟨hi,hf,hw,hf3,hw3⟩:=hk
 dsimp only at hi hf hw hf3 hw3 ⊢
 by_cases hlt:i<3
 ·have hs:=W.fitN_s s k i
  have ws:=W.wrN_s c s k i
  rw [← hf] at hs
  rw [← hw] at ws
  cases e1:W.fitS s i k<;>cases e2:W.wrongS c s i k<;>rw [e1] at hs ws<;>rw [e2] at ws
  all_goals
   have eF':=eF i (by omega)
   have eW':=eW i (by omega)
   rw [e1] at eF'
   rw [e2] at eW'
   conv=>whnf
   repeat' ((first|refine Br.pt (by omega) ?_|refine Br.ot rfl ?_|refine Br.of rfl ?_|refine CallS.q (eF') rfl ?_|refine CallS.q (eW') rfl ?_|refine Ob.mk (by unfold W.I64 at *;omega) ?_);conv=>whnf)
  ·refine⟨(i+1,f,w),⟨hlt,hs.symm,ws.symm,by dsimp only;omega,by dsimp only;omega⟩,by dsimp only;omega,(by trivial),(by trivial),(by trivial)⟩
  ·refine⟨(i+1,f,w),⟨hlt,hs.symm,ws.symm,by dsimp only;omega,by dsimp only;omega⟩,by dsimp only;omega,(by trivial),(by trivial),(by trivial)⟩
  ·refine⟨(i+1,f+1,w),⟨hlt,hs.symm,ws.symm,by dsimp only;omega,by dsimp only;omega⟩,by dsimp only;omega,(by trivial),(by trivial),(by trivial)⟩
  ·refine⟨(i+1,f+1,w+1),⟨hlt,hs.symm,ws.symm,by dsimp only;omega,by dsimp only;omega⟩,by dsimp only;omega,(by trivial),(by trivial),(by trivial)⟩
 ·obtain rfl:i=3:=by omega
  rw [← hf,← hw]
  conv=>whnf
  repeat' (first|((first|(refine Drw.len 14 12 rfl rfl ?_;refine Drw.lateP tabOk [0,1,2,3,4,5,6,7,8,9,10,11] [] [12,13] (by kernel_rfl) (by kernel_rfl) ?_)|refine Br.pt (by assumption) ?_|refine Br.pf (by assumption) ?_|refine Br.nf (by assumption) ?_|refine Br.ot rfl ?_|refine CallD.pu (s0) rfl ?_|refine CallD.pu (s1) rfl ?_|refine CallD.pu (s2) rfl ?_|refine BsN.mark ?_|refine FinAt.val rfl ?_);conv=>whnf)|((refine Br.d (fun h=>?_) (fun h=>?_))<;>conv=>whnf))
  ·rw [if_pos (by omega)];rfl
  ·rw [if_neg (by omega),if_pos (by omega)];rfl
  ·rw [if_neg (by omega),if_pos (by omega)];rfl
  ·rw [if_neg (by omega),if_neg (by omega)]
   refine CallS.call (CallN.retE [2] (RvL.cons (Rv.sl (by simp) rfl (by decide) (fun j hj=>?_)) (RvL.pu rfl)) (by repeat (first|exact Als.nil _|refine Als.cons rfl rfl ?_)) (by simp [hE]) eB ?_)
   ·obtain rfl|rfl|rfl:j=0∨j=1∨j=2:=by omega
    all_goals exact⟨nLe rfl,RvL.pu rfl⟩
   ·conv=>whnf
    repeat' ((refine FinAt.val rfl ?_);conv=>whnf)
    rfl
end Y
end
namespace Y
open Go Go.RowKit Go.Sort
section
structure AdN(c:W.Conf)(t:W.Trk)(s:W.Script):Prop where
 chk:RChk t
 conf:ConfB c
 route:W.routeMay t s.route=true
 on:W.onMay t s=true
 speeds:W.speedsMay c s=true
 nums:W.numbersMay c s=0
theorem fitsR_zero{c:W.Conf}{t:W.Trk}(h:(W.fitsR c t).1=0):c.wrongR=0∧t.checkR.1=0:=by
 unfold W.fitsR at h
 split at h
 ·cases h
 ·next h1 =>
  split at h
  ·cases h
  ·next h2=>exact⟨by omega,by omega⟩
theorem route_len{t:W.Trk}{l:List Int}(h:W.routeMay t l=true):1≤l.length∧l.length≤400:=by
 unfold W.routeMay at h
 simp only [Bool.and_eq_true,decide_eq_true_eq] at h
 exact h.1
theorem route_in{t:W.Trk}{l:List Int}(h:W.routeMay t l=true):W.InOk t l:=fun k hk=>by
 unfold W.routeMay at h
 simp only [Bool.and_eq_true] at h
 have:=W.allB_at h.2 k hk
 unfold W.routeAt at this
 simp only [Bool.and_eq_true,decide_eq_true_eq] at this
 exact this.1
theorem RChk.lens{t:W.Trk}(h:RChk t):W.LensOk t:=fun k hk=>by
 have:=h.sg k hk
 unfold W.segMay at this
 simp only [Bool.and_eq_true,decide_eq_true_eq] at this
 omega
theorem on_facts{t:W.Trk}{s:W.Script}(h:W.onMay t s=true):s.ticks.length≤4096∧(0≤s.start∧s.start≤W.startOf t s.route s.route.length)∧∀ i,i<s.ticks.length→0≤s.place (i+1)∧s.place (i+1)≤W.startOf t s.route s.route.length:=by
 unfold W.onMay at h
 simp only [Bool.and_eq_true,decide_eq_true_eq] at h
 refine⟨h.1.1,h.1.2,fun i hi=>?_⟩
 have:=W.allB_at h.2 i hi
 unfold W.onAt at this
 simp only [Bool.and_eq_true,decide_eq_true_eq] at this
 exact this.2
theorem speed_facts{c:W.Conf}{s:W.Script}(h:W.speedsMay c s=true):(-c.maxSpeed≤s.v0∧s.v0≤c.maxSpeed)∧∀ i,i<s.ticks.length→(-c.maxSpeed≤(s.tick i).v∧(s.tick i).v≤c.maxSpeed)∧(-c.maxAccel≤(s.tick i).v-s.ahead i∧(s.tick i).v-s.ahead i≤c.maxAccel):=by
 unfold W.speedsMay at h
 simp only [Bool.and_eq_true,Bool.not_eq_true'] at h
 refine⟨(W.far_iffn _ _).1 h.1,fun i hi=>?_⟩
 have:=W.allB_at h.2 i hi
 unfold W.speedAt at this
 simp only [Bool.and_eq_true,Bool.not_eq_true'] at this
 exact⟨(W.far_iffn _ _).1 this.1,(W.far_iffn _ _).1 this.2⟩
theorem num_facts{c:W.Conf}{s:W.Script}(h:W.numbersMay c s=0):(c.circLo≤s.circ0∧s.circ0≤c.circHi∧0≤s.phase0∧s.phase0<s.circ0)∧(c.circLo≤s.circ1∧s.circ1≤c.circHi∧0≤s.phase1∧s.phase1<s.circ1) ∧
  ∀ i,i<s.ticks.length→(-1099511627776≤(s.tick i).slip0∧(s.tick i).slip0≤1099511627776)∧(-1099511627776≤(s.tick i).slip1∧(s.tick i).slip1≤1099511627776)∧(-1073741824≤(s.tick i).rad∧(s.tick i).rad≤1073741824)∧(-c.accErr≤(s.tick i).acc∧(s.tick i).acc≤c.accErr):=by
 unfold W.numbersMay at h
 split at h
 ·cases h
 ·next h1 =>
  split at h
  ·next h2 =>
   simp only [Bool.or_eq_true,Bool.not_eq_true',not_or,Bool.not_eq_false] at h1
   obtain⟨h3,h4⟩:=h1
   unfold W.circMay at h3 h4
   rw [decide_eq_true_eq] at h3 h4
   refine⟨h3,h4,fun i hi=>?_⟩
   have:=W.allB_at h2 i hi
   unfold W.tickMay at this
   simp only [Bool.and_eq_true,Bool.not_eq_true'] at this
   exact⟨(W.far_iffn _ _).1 this.1.1.1,(W.far_iffn _ _).1 this.1.1.2,(W.far_iffn _ _).1 this.1.2,(W.far_iffn _ _).1 this.2⟩
  ·cases h
variable{c:W.Conf}{t:W.Trk}{s:W.Script}
theorem AdN.num(h:AdN c t s):W.NumOk s s.ticks.length:=by
 have h1:=speed_facts h.speeds
 have h2:=num_facts h.nums
 have hc:=h.conf.circLo
 have hd:=h.conf.circHi
 have hm:=h.conf.maxSpeed
 exact⟨fun k hk=>by have:=(h1.2 k hk).1;omega,fun k hk=>(h2.2.2 k hk).1,fun k hk=>(h2.2.2 k hk).2.1,by omega,by omega,by omega,by omega⟩
theorem AdN.sgo(h:AdN c t s):SGo c s:=⟨h.conf,(on_facts h.on).1,h.num,fun k hk=>((num_facts h.nums).2.2 k hk).2.2.1⟩
theorem AdN.end_(h:AdN c t s):W.startOf t s.route s.route.length≤439804651110400:=by
 have h1:=(W.startOf_bd h.chk.lens (route_in h.route) s.route.length (Nat.le_refl _)).2
 have h2:=route_len h.route
 omega
theorem AdN.place(h:AdN c t s)(k:Nat)(hk:k≤s.ticks.length):0≤s.place k∧s.place k≤439804651110400:=by
 have he:=h.end_
 have ho:=on_facts h.on
 cases k with
 |zero=>show 0≤s.start∧s.start≤_;omega
 |succ k=>have:=ho.2.2 k hk;omega
theorem AdN.vok(h:AdN c t s)(n:Nat)(hn:n≤s.ticks.length):W.VOk s n:=by
 have h1:=h.num
 have h0:=h.place 0 (Nat.zero_le _)
 have h0':s.place 0=s.start:=rfl
 exact⟨by omega,fun k hk=>by have:=h1.v k (by omega);omega⟩
theorem findId_lt(t:W.Trk)(id:Int):W.findId t id<0∨(0≤W.findId t id∧W.findId t id<t.grps.length):=by
 unfold W.findId W.firstI
 cases e:(List.range t.grps.length).find? _ with
 |none=>exact .inl (by decide)
 |some k =>
  have:=List.mem_range.1 (List.mem_of_find?_eq_some e)
  exact .inr ⟨Int.natCast_nonneg _,by show (k:Int) < _;omega⟩
theorem nominal_find{r:W.Read}(h:(W.nominal t s r).2=true):(0≤W.findId t r.group∧W.findId t r.group<t.grps.length)∧(0≤r.index∧r.index<s.route.length)∧(W.nominal t s r).1=W.startOf t s.route r.index.toNat+(t.grp (W.findId t r.group)).offset:=by
 unfold W.nominal at h ⊢
 split at h
 ·cases h
 ·next h1 =>
  rw [if_neg h1]
  have:=findId_lt t r.group
  exact⟨by omega,by omega,rfl⟩
theorem yRead(r:W.Read)(h:AdN c t s)(hb:ScrB s)(h0:0≤r.cycle)(h1:r.cycle<s.ticks.length)(hp:W.I64 r.point):Ret Tryz.prog 44 [confV c,trkV t,scrV s,.agg (readC r)] (·=.bool (W.readMay c t s r)):=by
 have hg4:=h.chk.g
 have hr4:=route_len h.route
 have hn4:=(on_facts h.on).1
 have hof:∀ k,k<t.grps.length→0≤(t.gp k).offset∧(t.gp k).offset≤1099511627776:=fun k hk=>by
  have h1:=h.chk.gr hk
  have h2:=h.chk.ok.len (t.gp k).seg.toNat (by omega)
  have e2:t.len (t.gp k).seg=(t.segs.getD (t.gp k).seg.toNat default).length:=rfl
  omega
 have eN:=yNominal t s r hb (by omega) (by omega) h.chk.lens (route_in h.route) hof
 have eA:=yAt s r.cycle hb (by omega) (by omega) (by omega) (h.vok _ (by omega))
 have eB:=yAt s (r.cycle+1) hb (by omega) (by omega) (by omega) (h.vok _ (by omega))
 have eF:=yFind t r.group (by omega)
 unfold W.readMay
 by_cases hn:(W.nominal t s r).2=true
 ·have hf:=nominal_find hn
  rw [if_pos hn]
  rw [hn] at eN
  have pa:=h.place r.cycle.toNat (by omega)
  have pb:=h.place (r.cycle+1).toNat (by omega)
  have hgr:=h.chk.gr (i:=(W.findId t r.group).toNat) (by omega)
  have hant:=h.conf.antenna
  have eg:t.grp (W.findId t r.group)=t.grps.getD (W.findId t r.group).toNat default:=rfl
  have eg':t.gp (W.findId t r.group).toNat=t.grps.getD (W.findId t r.group).toNat default:=rfl
  rw [eg'] at hgr
  rw [eg] at hf ⊢
  have hofk:=hof (W.findId t r.group).toNat (by omega)
  rw [eg'] at hofk
  have hst:=W.startOf_bd h.chk.lens (route_in h.route) r.index.toNat (by omega)
  have hX:=yFar (r.point-(W.nominal t s r).1) ((t.grps.getD (W.findId t r.group).toNat default).acc+c.antenna) (by omega) (by omega)
  unfold W.I64 at hp
  refine enterO tabOk (N:=67) (gs:=[]) (args:=[_,_,_,_]) Tryz.func44 rfl rfl rfl (nLe rfl) (fun E hE=>?_)
  conv=>whnf
  repeat' (first|((first|(refine Drw.len 10 9 rfl rfl ?_;refine Drw.allocM tabOk [0,1,2,3,4,5,6,7,8] [0,1,2,3,4,5,6,7,8] [[]] [9] 8 (by kernel_rfl) (by kernel_rfl) (by kernel_rfl) (by kernel_rfl) rfl (by simp [hE]) ?_)|refine Br.pt (by assumption) ?_|refine Br.pf (by assumption) ?_|refine Br.of rfl ?_|refine CallS.q (eN) rfl ?_|refine CallS.q (eA) rfl ?_|refine CallS.q (eB) rfl ?_|refine CallS.q (hX) rfl ?_|refine CallD.pu (eF) rfl ?_|refine Ob.mk (by omega) ?_|refine Ob.mk (by unfold W.I64 at *;omega) ?_|refine Ix.tn (by omega) ?_|refine FinAt.val rfl ?_);conv=>whnf)|((refine Br.d (fun h=>?_) (fun h=>?_))<;>conv=>whnf))
  ·show AV.bool _=AV.bool _
   congr 1
   dsimp only
   rw [decide_eq_true (by assumption),decide_eq_true (by assumption)]
   rfl
  ·show AV.bool _=AV.bool _
   congr 1
   dsimp only
   rw [decide_eq_false (p:=r.point≤max _ _) (by assumption),Bool.and_false]
   rfl
  ·show AV.bool _=AV.bool _
   congr 1
   dsimp only
   rw [decide_eq_false (by assumption)]
   rfl
 ·rw [if_neg hn]
  rw [show (W.nominal t s r).2=false by simpa using hn] at eN
  refine enterO tabOk (N:=67) (gs:=[]) (args:=[_,_,_,_]) Tryz.func44 rfl rfl rfl (nLe rfl) (fun E hE=>?_)
  conv=>whnf
  repeat' ((first|refine Br.ot rfl ?_|refine CallS.q (eN) rfl ?_|refine FinAt.val rfl ?_);conv=>whnf)
  rfl
theorem nb_t{b:Bool}(h:(!b)=true):b=false:=by cases b<;>simp_all
theorem nb_f{b:Bool}(h:(!b)=false):b=true:=by cases b<;>simp_all
theorem yReads(h:AdN c t s)(hb:ScrB s)(hr4:s.reads.length≤1000000)(hI:∀ i,i<s.reads.length→W.I64 (s.reads.getD i default).cycle∧W.I64 (s.reads.getD i default).point):Ret Tryz.prog 28 [confV c,trkV t,scrV s] (·=.bool (W.readsMay c t s)):=by
 have hn4:=(on_facts h.on).1
 refine enterO tabOk (N:=54) (gs:=[]) (args:=[_,_,_]) Tryz.func28 rfl rfl rfl (nLe rfl) (fun E hE=>?_)
 conv=>whnf
 refine LoopAt.rule tabOk [(3,_),(4,_),(5,_),(6,_)] (fun (i:Nat)=>[(7,.int .i64 (i:Int))]) (fun (i:Nat)=>[.blk (confC c),.blk [sgsV t.segs,gpsV t.grps],.blk (scrC s)]) (fun (i:Nat)=>i≤s.reads.length∧∀ j,j<i→W.readAt c t s j=true) (fun (i:Nat)=>s.reads.length-i) 0 (by trivial) ⟨Nat.zero_le _,fun j hj=>absurd hj (by omega)⟩ (by trivial) (by trivial) (fun _=>⟨rfl,rfl,rfl,by simp [hE]⟩) (fun i hk=>?_)
 obtain⟨hk,hno⟩:=hk
 by_cases hlt:i<s.reads.length
 ·have hI1:=(hI i hlt).1
  have hI2:=(hI i hlt).2
  unfold W.I64 at hI1
  have eR:=fun h0 h1=>yRead (s.reads.getD i default) h hb h0 h1 hI2
  have er:W.readAt c t s i=(decide (0≤(s.reads.getD i default).cycle∧(s.reads.getD i default).cycle<s.ticks.length∧(i=0∨(s.reads.getD (i-1) default).cycle<(s.reads.getD i default).cycle))&&W.readMay c t s (s.reads.getD i default)):=rfl
  have no:W.readAt c t s i=false→AV.bool false=.bool (W.readsMay c t s):=fun hf=>by
   unfold W.readsMay;rw [W.allB_no hlt hf]
  by_cases hz:i=0
  ·subst hz
   conv=>whnf
   repeat' (first|((first|refine Br.pt (by assumption) ?_|refine Br.pf (by assumption) ?_|refine Br.pt (by omega) ?_|refine Br.pf (by omega) ?_|refine Br.ot rfl ?_|refine Br.of rfl ?_|refine CallS.q (eR (by omega) (by omega)) rfl ?_|refine Ob.mk (by omega) ?_|refine Ob.mk (by unfold W.I64 at *;omega) ?_|refine Drw.loose (by kernel_rfl) ?_|refine Ix.of 0 rfl ?_|refine FinAt.val rfl ?_);conv=>whnf)|((first|refine Br.d (fun h=>?_) (fun h=>?_)|refine Br.mk (fun h=>?_) (fun h=>?_))<;>conv=>whnf))
   all_goals first
    |exact no (by rw [er,decide_eq_false (by omega)];rfl)
    |exact no (by rw [er,show W.readMay c t s (s.reads.getD _ default)=false from nb_t (by assumption)];exact Bool.and_false _)
    |exact⟨_+1,⟨hlt,W.all_step hno (by rw [er,decide_eq_true (by omega),show W.readMay c t s (s.reads.getD _ default)=true from nb_f (by assumption)];rfl)⟩,by omega,(by trivial),(by trivial),(by trivial)⟩
  ·have hi1:((i:Int)-1).toNat=i-1:=by omega
   rw [← hi1] at er
   conv=>whnf
   repeat' (first|((first|refine Br.pt (by assumption) ?_|refine Br.pf (by assumption) ?_|refine Br.pt (by omega) ?_|refine Br.ot rfl ?_|refine CallS.q (eR (by omega) (by omega)) rfl ?_|refine Ob.mk (by omega) ?_|refine Ob.mk (by unfold W.I64 at *;omega) ?_|refine Drw.loose (by kernel_rfl) ?_|refine Ix.nat _ ?_|refine Ix.tn (by omega) ?_|refine FinAt.val rfl ?_);conv=>whnf)|((first|refine Br.d (fun h=>?_) (fun h=>?_)|refine Br.mk (fun h=>?_) (fun h=>?_))<;>conv=>whnf))
   all_goals first
    |exact no (by rw [er,decide_eq_false (by omega)];rfl)
    |exact no (by rw [er,show W.readMay c t s (s.reads.getD _ default)=false from nb_t (by assumption)];exact Bool.and_false _)
    |exact⟨_+1,⟨hlt,W.all_step hno (by rw [er,decide_eq_true (by omega),show W.readMay c t s (s.reads.getD _ default)=true from nb_f (by assumption)];rfl)⟩,by omega,(by trivial),(by trivial),(by trivial)⟩
 ·obtain rfl:i=s.reads.length:=by omega
  conv=>whnf
  repeat' ((first|refine Br.pf (by omega) ?_|refine FinAt.val rfl ?_);conv=>whnf)
  unfold W.readsMay
  rw [W.allB_yes hno]
  rfl
end
end Y
end Go.Proofs.YtllemifiammnnaaGreat
