/- Part 17 of the proof. No condition. -/
import Derived.Test.YtllemifiammnnaaGreatRows
import Derived.Test.YtllemifiammnnaaGreatG00
import Derived.Test.YtllemifiammnnaaGreatG15
import Derived.Test.YtllemifiammnnaaGreatG16
set_option linter.unusedVariables false
set_option linter.unusedSimpArgs false
set_option maxRecDepth 100000
set_option maxHeartbeats 4000000
namespace Go.Proofs.YtllemifiammnnaaGreat
section
open Go.ChangeShapes Go.WideShapes Go.ChangeAt Go.RowKit Go.Deep Go.Joins
open Go.ChangeMaps (open_string shut_string)
theorem wholeGrowth_own:ownKnob Tryz.prog.godebug=none:=by kernel_rfl
theorem wholeGrowth_laidOut:laidOutB Tryz.prog=true:=by kernel_rfl
theorem wholeGrowth_lifted(os:Os)(started:os.Started)(H:Type)(enc:TypeId×Value→H) :
  ReturnsInHanded {} Tryz.checked os 5 .any (Rows.wholeGrowthSpec.pre6 enc Tryz.prog Tryz.f5 Rows.wholeGrowthRow.domain false) (Rows.wholeGrowthSpec.post enc Tryz.prog Tryz.f5 false true false false):=by
 refine returnsInHanded_of_change (C:=Tryz.checked) wholeGrowth_own started (by kernel_rfl) Tryz.func5
  (ChangeSpec.witness6 (enc:=enc) (C:=Tryz.checked) false ⟨#[],#[.agg #[.int .i64 0,.int .i64 0,.int .i64 0,.int .i64 0,.int .i64 0,.int .i64 0,.int .i64 0,.int .i64 0,.int .i64 0,.int .i64 0,.int .i64 0,.int .i64 0,.int .i64 0,.int .i64 0],.agg #[.slice none 0 0,.slice none 0 0],.agg #[.slice none 0 0,.int .i64 0,.int .i64 0,.int .i64 0,.int .i64 0,.int .i64 0,.int .i64 0,.slice none 0 0,.slice none 0 0],.int .i64 0,.int .i64 0],[]⟩ 8 (by kernel_rfl) (by kernel_rfl) (by kernel_rfl) (by kernel_rfl)) ?_
 intro W base args ds gs before hval0 hW hcnd _
 have hval:∀ (j:Nat) t v,Tryz.f5.params[j]?=some t→args[j]?=some v→Value.okWide Tryz.prog W .any base t v:=hval0
 have hW':=hW
 obtain⟨p,q,hA0,hV,rfl,hfz,hnd⟩:=hW
 have hA:DataW.TrodAll enc Tryz.prog W 0 (fun _=>true) true Tryz.f5.params.toList args.toList ds p:=hA0
 rw [Tryz.params5] at hA hval
 have hT:=hA
 obtain⟨v0,vs0,d0,ds0,p0,q0,hargs,rfl,rfl,h0,r0⟩:=trodAll_cons hA
 obtain⟨v1,vs1,d1,ds1,p1,q1,rfl,rfl,rfl,h1,r1⟩:=trodAll_cons r0
 obtain⟨v2,vs2,d2,ds2,p2,q2,rfl,rfl,rfl,h2,r2⟩:=trodAll_cons r1
 obtain⟨v3,vs3,d3,ds3,p3,q3,rfl,rfl,rfl,h3,r3⟩:=trodAll_cons r2
 obtain⟨v4,vs4,d4,ds4,p4,q4,rfl,rfl,rfl,h4,r4⟩:=trodAll_cons r3
 obtain⟨rfl,rfl,rfl⟩:=trodAll_nil r4
 obtain rfl:args=#[v0,v1,v2,v3,v4]:=by cases args;simp_all
 obtain⟨rfl,rfl⟩:=trodVars_none hV
 clear hA0 hval0
 obtain⟨c,t,s,q0,q1,q2,hs⟩:=Y.open_cts (hval 0 23 v0 rfl rfl) h0 (hval 1 27 v1 rfl rfl) h1 (hval 2 33 v2 rfl rfl) h2
 obtain⟨a,q3⟩:=okWide_int (k:=.i64) Tryz.underlying3 (hval 3 3 v3 rfl rfl)
 obtain⟨b,q4⟩:=okWide_int (k:=.i64) Tryz.underlying3 (hval 4 3 v4 rfl rfl)
 refine(Y.growthG_law c t s hs a b W [v0,v1,v2,v3,v4] ⟨(Y.R_pu rfl).2 q0,(Y.R_pu rfl).2 q1,(Y.R_pu rfl).2 q2,(Y.R_pu rfl).2 q3,(Y.R_pu rfl).2 q4,trivial⟩).mono fun e W' ⟨he,bel⟩=>?_
 subst he
 exact⟨_,rfl,_,_,_,[],_,[],hW',trodAll_mk1 (shut_bool Tryz.underlying4 _),below_trodAll wholeGrowth_laidOut bel (by kernel_rfl) hT,rfl,bel.frame _,fun h=>by cases h⟩
theorem wholeGrowth_holds:Rows.WholeGrowthSaid :=
 OpenClaim.holds_of_wide 5 Tryz.f5 rfl rfl rfl rfl rfl rfl rfl ⟨rfl,rfl,rfl,rfl,rfl⟩ rfl rfl rfl rfl rfl (by kernel_rfl) Tryz.func5 (by kernel_rfl)
  (of_decide_eq_true (by kernel_rfl)) (by unfold Func.isWrapper;first|(rw [if_pos (by decide +kernel)];kernel_rfl)|(rw [if_neg (by decide +kernel)];exact⟨rfl,rfl⟩))
  (fun os started H enc _=>wholeGrowth_lifted os started H enc)
end
end Go.Proofs.YtllemifiammnnaaGreat
