/- The walk of the law MailCounts. No condition. -/
import Derived.Test.YtfaabjohlimnlaaMg
namespace Go.Proofs.Ytfaabjohlimnlaa
open Go.ChangeShapes Go.WideShapes Go.RowKit Go.Sort
set_option linter.unusedVariables false
set_option linter.unusedSimpArgs false

@[go_sem] theorem idx_b6_0 (a b c d e f : Value) (w : World) : (Instr.index 52 (.agg #[a, b, c, d, e, f]) (.int .i64 0)).run Try.prog w = .ok a w := by kernel_rfl
@[go_sem] theorem idx_b6_1 (a b c d e f : Value) (w : World) : (Instr.index 52 (.agg #[a, b, c, d, e, f]) (.int .i64 1)).run Try.prog w = .ok b w := by kernel_rfl
@[go_sem] theorem idx_b6_2 (a b c d e f : Value) (w : World) : (Instr.index 52 (.agg #[a, b, c, d, e, f]) (.int .i64 2)).run Try.prog w = .ok c w := by kernel_rfl
@[go_sem] theorem idx_b6_3 (a b c d e f : Value) (w : World) : (Instr.index 52 (.agg #[a, b, c, d, e, f]) (.int .i64 3)).run Try.prog w = .ok d w := by kernel_rfl
@[go_sem] theorem idx_b6_4 (a b c d e f : Value) (w : World) : (Instr.index 52 (.agg #[a, b, c, d, e, f]) (.int .i64 4)).run Try.prog w = .ok e w := by kernel_rfl
@[go_sem] theorem idx_b6_5 (a b c d e f : Value) (w : World) : (Instr.index 52 (.agg #[a, b, c, d, e, f]) (.int .i64 5)).run Try.prog w = .ok f w := by kernel_rfl

/-- how many of the first kinds are there -/
def cn (h : Nat → Bool) : Nat → Nat
  | 0 => 0
  | k + 1 => cn h k + (h k).toNat
theorem cn6 (h : Nat → Bool) : cn h 6 = Ml.cnt h := by simp [cn, Ml.cnt]
theorem cn_le (h : Nat → Bool) (k : Nat) : cn h k ≤ k := by
  induction k with
  | zero => simp [cn]
  | succ k ih => cases hk : h k <;> simp [cn, hk] <;> omega

theorem counts_great (cycle : Int) (A : Option Addr) (rs : List Rw) (c : Nat) (w : World) (hr : RdR w A rs) (hcl : rs.length ≤ c) (hcm : c ≤ maxLen) (hg : greatB rs = true) :
    Calls Try.prog 11 #[.int .i64 cycle, .slice A rs.length c] w fun e w' => e = .returned (.bool true) ∧ Below w.heap.size w w' := by
  have HR := Lib.hid hr; clear hr
  have HG := Lib.hid (fun w' (hb : Below w.heap.size w w') => great_any A rs c w' (HR.out.below hb) hcl hcm)
  rw [hg] at HG
  clear hg
  go_enter Try.func11, Try.ntmps11
  go_wp2_with fail
  refine (mailAnchor_any _).mono ?_
  rintro e w1 ⟨rfl, hb1⟩
  go_wp2_with fail
  refine (HG.out _ hb1).mono ?_
  rintro e w2 ⟨rfl, rfl⟩
  go_wp2_with fail
  go_ret
  exact ⟨rfl, hb1⟩

set_option maxRecDepth 100000 in
set_option maxHeartbeats 2000000 in
theorem counts_ok (cycle : Int) (A : Option Addr) (rs : List Rw) (c : Nat) (w : World) (hr : RdR w A rs) (hcl : rs.length ≤ c) (hcm : c ≤ maxLen) (hg : greatB rs = false) :
    Calls Try.prog 11 #[.int .i64 cycle, .slice A rs.length c] w fun e w' => e = .returned (.bool true) ∧ Below w.heap.size w w' := by
  have HR := Lib.hid hr; clear hr
  obtain ⟨hl, hn⟩ := great_no hg
  have HG := Lib.hid (fun w' (hb : Below w.heap.size w w') => great_any A rs c w' (HR.out.below hb) hcl hcm)
  rw [hg] at HG
  have HS := Lib.hid (fun w' (hb : Below w.heap.size w w') => sort_any cycle A rs c w' (HR.out.below hb) hcl hcm (by omega) (fun r hr => Nat.le_trans (hl r hr) (by omega)))
  have HC := Lib.hid (Ml.sort_count cycle (texts rs) (texts_lt HR.out))
  rw [texts_len] at HC
  clear hg hl
  generalize Ml.sort cycle (texts rs) = mm at HS HC
  have hC : mm.bad + mm.stale + mm.twice + mm.beyond ≤ 100 := by have := HC.out; omega
  go_enter Try.func11, Try.ntmps11
  go_wp2_with fail
  refine (mailAnchor_any _).mono ?_
  rintro e w1 ⟨rfl, hb1⟩
  go_wp2_with fail
  refine (HG.out _ hb1).mono ?_
  rintro e w2 ⟨rfl, rfl⟩
  go_wp2_with fail
  refine (HS.out _ hb1).mono ?_
  rintro e w2 ⟨rfl, hb2⟩
  have hb12 := on_past hb1 hb2
  have hv : mm.v = .agg mm.cells.toArray := rfl
  rw [hv]
  clear hb1 hb2 hv
  have HX := Lib.hid (range_alloc_new w2 mm.cells 55 _ rfl)
  have HB := Lib.hid (on_alloc hb12 (.cells mm.cells.toArray 55))
  have q12 : (w2.alloc (.cells mm.cells.toArray 55)).cell? ⟨w2.heap.size, 12, none⟩ = some (.int .i64 mm.bad) := by simpa using HX.out 12 _ rfl
  have q13 : (w2.alloc (.cells mm.cells.toArray 55)).cell? ⟨w2.heap.size, 13, none⟩ = some (.int .i64 mm.stale) := by simpa using HX.out 13 _ rfl
  have q14 : (w2.alloc (.cells mm.cells.toArray 55)).cell? ⟨w2.heap.size, 14, none⟩ = some (.int .i64 mm.twice) := by simpa using HX.out 14 _ rfl
  have q15 : (w2.alloc (.cells mm.cells.toArray 55)).cell? ⟨w2.heap.size, 15, none⟩ = some (.int .i64 mm.beyond) := by simpa using HX.out 15 _ rfl
  have q0 : (w2.alloc (.cells mm.cells.toArray 55)).cell? ⟨w2.heap.size, 0, none⟩ = some (.bool (mm.has 0)) := by simpa using HX.out 0 _ rfl
  have q1 : (w2.alloc (.cells mm.cells.toArray 55)).cell? ⟨w2.heap.size, 1, none⟩ = some (.bool (mm.has 1)) := by simpa using HX.out 1 _ rfl
  have q2 : (w2.alloc (.cells mm.cells.toArray 55)).cell? ⟨w2.heap.size, 2, none⟩ = some (.bool (mm.has 2)) := by simpa using HX.out 2 _ rfl
  have q3 : (w2.alloc (.cells mm.cells.toArray 55)).cell? ⟨w2.heap.size, 3, none⟩ = some (.bool (mm.has 3)) := by simpa using HX.out 3 _ rfl
  have q4 : (w2.alloc (.cells mm.cells.toArray 55)).cell? ⟨w2.heap.size, 4, none⟩ = some (.bool (mm.has 4)) := by simpa using HX.out 4 _ rfl
  have q5 : (w2.alloc (.cells mm.cells.toArray 55)).cell? ⟨w2.heap.size, 5, none⟩ = some (.bool (mm.has 5)) := by simpa using HX.out 5 _ rfl
  clear HX hb12
  go_wp2_with (refine wpList_store_new rfl 55 (.tmp 5) (.tmp 15) rfl 55 _ mm.cells rfl rfl rfl mailSize mm.cells_one ?_)
  obtain ⟨h0, e0⟩ : ∃ h0, Hid (mm.has 0 = h0) := ⟨_, Lib.hid rfl⟩
  obtain ⟨h1, e1⟩ : ∃ h1, Hid (mm.has 1 = h1) := ⟨_, Lib.hid rfl⟩
  obtain ⟨h2, e2⟩ : ∃ h2, Hid (mm.has 2 = h2) := ⟨_, Lib.hid rfl⟩
  obtain ⟨h3, e3⟩ : ∃ h3, Hid (mm.has 3 = h3) := ⟨_, Lib.hid rfl⟩
  obtain ⟨h4, e4⟩ : ∃ h4, Hid (mm.has 4 = h4) := ⟨_, Lib.hid rfl⟩
  obtain ⟨h5, e5⟩ : ∃ h5, Hid (mm.has 5 = h5) := ⟨_, Lib.hid rfl⟩
  rw [e0.out, e1.out, e2.out, e3.out, e4.out, e5.out]
  go_loop [29, 6, 8] (fun s29 s6 s8 => ∃ k : Nat, k ≤ 6 ∧ s29 = .int .i64 k ∧ s6 = .int .i64 ((mm.bad : Int) + mm.stale + mm.twice + mm.beyond + (cn mm.has k : Nat))) (fun s29 _ _ => 6 - (intOf s29).toNat)
  case atStart => exact ⟨0, by omega, rfl, by simp [cn]⟩
  case round =>
    obtain ⟨k, hk, rfl, rfl⟩ := hrel
    by_cases hlt : k < 6
    · have hcl := cn_le mm.has k
      have hcs : Hid (cn mm.has (k + 1) = cn mm.has k + (mm.has k).toNat) := Lib.hid rfl
      obtain ⟨x, hx⟩ : ∃ x, x = cn mm.has k := ⟨_, rfl⟩
      rw [← hx] at hcl hcs ⊢
      clear hx
      have hk' : k = 0 ∨ k = 1 ∨ k = 2 ∨ k = 3 ∨ k = 4 ∨ k = 5 := by omega
      clear q0 q1 q2 q3 q4 q5 q12 q13 q14 q15
      rcases hk' with rfl | rfl | rfl | rfl | rfl | rfl
      · rw [e0.out] at hcs
        cases h0 <;>
        (go_wp2_with fail
         go_round
         case rel => exact ⟨_, by decide, rfl, by rw [hcs.out]; first | rfl | (congr 1; simp; omega)⟩
         case measure => simp [intOf])
      · rw [e1.out] at hcs
        cases h1 <;>
        (go_wp2_with fail
         go_round
         case rel => exact ⟨_, by decide, rfl, by rw [hcs.out]; first | rfl | (congr 1; simp; omega)⟩
         case measure => simp [intOf])
      · rw [e2.out] at hcs
        cases h2 <;>
        (go_wp2_with fail
         go_round
         case rel => exact ⟨_, by decide, rfl, by rw [hcs.out]; first | rfl | (congr 1; simp; omega)⟩
         case measure => simp [intOf])
      · rw [e3.out] at hcs
        cases h3 <;>
        (go_wp2_with fail
         go_round
         case rel => exact ⟨_, by decide, rfl, by rw [hcs.out]; first | rfl | (congr 1; simp; omega)⟩
         case measure => simp [intOf])
      · rw [e4.out] at hcs
        cases h4 <;>
        (go_wp2_with fail
         go_round
         case rel => exact ⟨_, by decide, rfl, by rw [hcs.out]; first | rfl | (congr 1; simp; omega)⟩
         case measure => simp [intOf])
      · rw [e5.out] at hcs
        cases h5 <;>
        (go_wp2_with fail
         go_round
         case rel => exact ⟨_, by decide, rfl, by rw [hcs.out]; first | rfl | (congr 1; simp; omega)⟩
         case measure => simp [intOf])
    · obtain rfl : k = 6 := by omega
      have hf : (mm.bad : Int) + mm.stale + mm.twice + mm.beyond + (cn mm.has 6 : Nat) = rs.length := by rw [cn6]; have := HC.out; omega
      rw [hf]
      clear hf q0 q1 q2 q3 q4 q5
      go_wp2_with fail
      go_ret
      exact ⟨by simp, HB.out⟩

theorem counts_walk (cycle : Int) (A : Option Addr) (rs : List Rw) (c : Nat) (w : World) (hr : RdR w A rs) (hcl : rs.length ≤ c) (hcm : c ≤ maxLen) :
    Calls Try.prog 11 #[.int .i64 cycle, .slice A rs.length c] w fun e w' => e = .returned (.bool true) ∧ Below w.heap.size w w' := by
  cases hg : greatB rs with
  | true => exact counts_great cycle A rs c w hr hcl hcm hg
  | false => exact counts_ok cycle A rs c w hr hcl hcm hg

end Go.Proofs.Ytfaabjohlimnlaa
