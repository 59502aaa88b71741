/- Five numbers of 16 bits that came in, opened; the law MailFirst's walk joined. No condition. -/
import Derived.Test.YtfaabjohlimnlaaMf
import Derived.Test.YtfaabjohlimnlaaMo
namespace Go.Proofs.Ytfaabjohlimnlaa
open Go.ChangeShapes Go.WideShapes Go.ChangeAt Go.RowKit Go.Deep Go.Joins
set_option linter.unusedVariables false

theorem fiveTypes : Try.prog.cellTypes Try.prog.depth 69 = some [68, 68, 68, 68, 68] ∨ Try.prog.cellTypes Try.prog.depth 69 = some [68] := by
  first | exact .inl (by kernel_rfl) | exact .inr (by kernel_rfl)
theorem cell_i16 {w : World} {r : Reach} {b0 : Nat} {v : Value} (h : Cell.okWide Try.prog w r b0 68 v) : ∃ b, v = .int .i16 b ∧ -32768 ≤ b ∧ b ≤ 32767 := by
  simp only [Cell.okWide, Try.underlying68] at h
  cases v <;> simp_all [Cell.ok, IntKind.has, IntKind.min, IntKind.max, IntKind.bits, IntKind.signed]
theorem v5_of {w : World} {r : Reach} {b0 : Nat} {v : Value} (hv : Value.okWide Try.prog w r b0 69 v) :
    ∃ a b c d e : Int, v = v5 a b c d e ∧ (-32768 ≤ a ∧ a ≤ 32767) ∧ (-32768 ≤ b ∧ b ≤ 32767) ∧ (-32768 ≤ c ∧ c ≤ 32767) ∧ (-32768 ≤ d ∧ d ≤ 32767) ∧ (-32768 ≤ e ∧ e ≤ 32767) := by
  simp only [Value.okWide, Try.underlying69] at hv
  obtain ⟨⟨l⟩, rfl, hsz, ts, hts, _, hc⟩ := hv
  have hl : l.length = 5 := by
    have : Try.prog.cellsOf 69 = 5 := by kernel_rfl
    rw [this] at hsz; simpa using hsz
  have hc' : ∀ (i : Nat) (v : Value), l[i]? = some v → Cell.okWide Try.prog w r b0 68 v := by
    intro i v hi
    obtain ⟨u, hu, hh⟩ := hc i v (by simpa using hi)
    have hi5 : i < 5 := by have := (List.getElem?_eq_some_iff.1 hi).1; omega
    rcases fiveTypes with h | h <;> (rw [h] at hts; cases hts)
    · have : i = 0 ∨ i = 1 ∨ i = 2 ∨ i = 3 ∨ i = 4 := by omega
      rcases this with rfl | rfl | rfl | rfl | rfl <;> (cases hu; exact hh)
    · have : i = 0 ∨ i = 1 ∨ i = 2 ∨ i = 3 ∨ i = 4 := by omega
      rcases this with rfl | rfl | rfl | rfl | rfl <;> (cases hu; exact hh)
  match l, hl with
  | [x0, x1, x2, x3, x4], _ =>
    obtain ⟨a, rfl, ha⟩ := cell_i16 (hc' 0 x0 rfl)
    obtain ⟨b, rfl, hb⟩ := cell_i16 (hc' 1 x1 rfl)
    obtain ⟨c, rfl, hcc⟩ := cell_i16 (hc' 2 x2 rfl)
    obtain ⟨d, rfl, hd⟩ := cell_i16 (hc' 3 x3 rfl)
    obtain ⟨e, rfl, he⟩ := cell_i16 (hc' 4 x4 rfl)
    exact ⟨a, b, c, d, e, rfl, ha, hb, hcc, hd, he⟩

theorem first_walk (cycle a b c d e : Int) (A : Option Addr) (rs : List Rw) (cc : Nat) (w : World) (hr : RdR w A rs) (hcl : rs.length ≤ cc) (hcm : cc ≤ maxLen) (hnn : cc ≠ 0 → ∃ b off, A = some ⟨b, off, none⟩)
    (hcy : -9223372036854775808 ≤ cycle) (hcy' : cycle ≤ 9223372036854775807) (ha : -32768 ≤ a ∧ a ≤ 32767) (hb : -32768 ≤ b ∧ b ≤ 32767) (hc : -32768 ≤ c ∧ c ≤ 32767) (hd : -32768 ≤ d ∧ d ≤ 32767) (he : -32768 ≤ e ∧ e ≤ 32767) :
    Calls Try.prog 14 #[.int .i64 cycle, v5 a b c d e, .slice A rs.length cc] w fun e w' => e = .returned (.bool true) ∧ Below w.heap.size w w' := by
  cases hg : greatB rs with
  | true => exact first_great cycle a b c d e A rs cc w hr hcl hcm hg
  | false =>
    refine first_ok cycle a b c d e A rs cc w hr hcl hcm hg (fun h => ?_) hcy hcy' ha hb hc hd he
    rcases Nat.eq_zero_or_pos cc with h0 | h0
    · exact h0
    · obtain ⟨x, y, e⟩ := hnn (by omega)
      rw [h] at e; cases e

end Go.Proofs.Ytfaabjohlimnlaa
