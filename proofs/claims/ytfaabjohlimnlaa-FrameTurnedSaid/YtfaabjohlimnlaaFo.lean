/- A frame that came in, opened. No condition. -/
import Derived.Test.YtfaabjohlimnlaaCo
namespace Go.Proofs.Ytfaabjohlimnlaa
open Go.ChangeShapes Go.WideShapes Go.ChangeAt Go.RowKit Go.Deep Go.Joins
section
variable {H : Type} {enc : TypeId × Value → H} {w : World} {base : Nat} {spare : Nat → Bool} {held : Bool}
theorem frame_of {b0 : Nat} {v : Value} {d : DataW H} {p : List MemPlace} {r : Reach}
    (hv : Value.okWide Try.prog w r b0 35 v) (h : DataW.Trod enc Try.prog w base spare held 35 v d p) : ∃ k s x : Int, v = .agg #[.int .i64 k, .int .i64 s, .int .i64 x] ∧ -9223372036854775808 ≤ x ∧ x ≤ 9223372036854775807 := by
  obtain ⟨xs, rfl, hl, hw⟩ := open_agg_ints Try.underlying35 (by kernel_rfl) (by kernel_rfl) (by kernel_rfl) hv h
  obtain ⟨k, s, x, rfl⟩ := list_len3 hl
  have := bounds_i64 (hw x (by simp))
  exact ⟨k, s, x, rfl, this.1, this.2⟩
end

end Go.Proofs.Ytfaabjohlimnlaa
