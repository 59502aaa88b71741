/- The law CrcAdds: whatever comes in, it returns true, and what came in reads as before. No condition. -/
import Derived.Test.YtfaabjohlimnlaaRows
import Derived.Test.YtfaabjohlimnlaaLaw
import Derived.Test.YtfaabjohlimnlaaAd
import Derived.Test.YtfaabjohlimnlaaBo
namespace Go.Proofs.Ytfaabjohlimnlaa
open Go.ChangeShapes Go.WideShapes Go.ChangeAt Go.RowKit Go.Deep Go.Joins
open Go.ChangeMaps (open_string shut_string)
set_option linter.unusedVariables false

theorem crcAdds_own : ownKnob Try.prog.godebug = none := by kernel_rfl
theorem crcAdds_laidOut : laidOutB Try.prog = true := by kernel_rfl

set_option maxRecDepth 100000 in
theorem crcAdds_lifted (os : Os) (started : os.Started) (H : Type) (enc : TypeId × Value → H) :
    ReturnsInHanded {} Try.checked os 4 .any (Rows.crcAddsSpec.pre6 enc Try.prog Try.f4 Rows.crcAddsRow.domain false) (Rows.crcAddsSpec.post enc Try.prog Try.f4 false true false false) := by
  refine returnsInHanded_of_change (C := Try.checked) crcAdds_own started (by kernel_rfl) Try.func4
    (ChangeSpec.witness6 (enc := enc) (C := Try.checked) false ⟨#[], #[.slice none 0 0, .slice none 0 0, .slice none 0 0], []⟩ 8 (by kernel_rfl) (by kernel_rfl) (by kernel_rfl) (by kernel_rfl)) ?_
  intro W base args ds gs before hval0 hW hcnd _
  have hval : ∀ (j : Nat) t v, Try.f4.params[j]? = some t → args[j]? = some v → Value.okWide Try.prog W .any base t v := hval0
  have hW' := hW
  obtain ⟨p, q, hA0, hV, rfl, hfz, hnd⟩ := hW
  have hA : DataW.TrodAll enc Try.prog W 0 (fun _ => true) true Try.f4.params.toList args.toList ds p := hA0
  rw [Try.params4] at hA hval
  have hT := hA
  obtain ⟨v0, vs0, d0, ds0, p0, q0, hargs, rfl, rfl, h0, r0⟩ := trodAll_cons hA
  obtain ⟨v1, vs1, d1, ds1, p1, q1, rfl, rfl, rfl, h1, r1⟩ := trodAll_cons r0
  obtain ⟨v2, vs2, d2, ds2, p2, q2, rfl, rfl, rfl, h2, r2⟩ := trodAll_cons r1
  obtain ⟨rfl, rfl, rfl⟩ := trodAll_nil r2
  obtain rfl : args = #[v0, v1, v2] := by cases args; simp_all
  obtain ⟨rfl, rfl⟩ := trodVars_none hV
  clear hA0 hval0
  obtain ⟨a, l, ca, rfl, ha, _, hca, hca'⟩ := bytes_of (hval 0 22 v0 rfl rfl) h0
  obtain ⟨b, m, cb, rfl, hb, _, hcb, hcb'⟩ := bytes_of (hval 1 22 v1 rfl rfl) h1
  obtain ⟨d, k, cd, rfl, hd, _, hcd, hcd'⟩ := bytes_of (hval 2 22 v2 rfl rfl) h2
  refine (adds_walk a b d l m k ca cb cd W ha hb hd hca hcb hcd hca' hcb' hcd').mono fun e W' ⟨he, bel⟩ => ?_
  subst he
  exact ⟨_, rfl, _, _, _, [], _, [], hW', trodAll_mk1 (shut_bool Try.underlying4 _), below_trodAll crcAdds_laidOut bel (by kernel_rfl) hT, rfl, bel.frame _, fun h => by cases h⟩

theorem crcAdds_holds : Rows.CrcAddsSaid :=
  OpenClaim.holds_of_wide 4 Try.f4 rfl rfl rfl rfl rfl rfl rfl ⟨rfl, rfl, rfl, rfl, rfl⟩ rfl rfl rfl rfl rfl (by kernel_rfl) Try.func4 (by kernel_rfl)
    (of_decide_eq_true (by kernel_rfl)) (by unfold Func.isWrapper; first | (rw [if_pos (by decide +kernel)]; kernel_rfl) | (rw [if_neg (by decide +kernel)]; exact ⟨rfl, rfl⟩))
    (fun os started H enc _ => crcAdds_lifted os started H enc)

end Go.Proofs.Ytfaabjohlimnlaa
