/- The walk of the reference's Put of frames. No condition. -/
import Derived.Test.YtfaabjohlimnlaaGr
import Derived.Test.YtfaabjohlimnlaaFa
import Derived.Test.YtfaabjohlimnlaaBz
namespace Go.Proofs.Ytfaabjohlimnlaa
open Go.ChangeShapes Go.WideShapes Go.RowKit Go.Sort
set_option linter.unusedVariables false
set_option linter.unusedSimpArgs false

set_option maxHeartbeats 1000000 in
theorem rput_kind (k s v : Int) (w : World) (hk : Fr.sz k = 0) :
    Calls Try.prog 23 #[.agg #[.int .i64 k, .int .i64 s, .int .i64 v]] w fun e w' => e = .returned (.tuple #[.slice none 0 0, .int .i64 30]) ∧ Below w.heap.size w w' := by
  have hS : ∀ w, Calls Try.prog 37 #[.int .i64 k] w fun e w' => e = .returned (.int .i64 0) ∧ Below w.heap.size w w' := fun w => by
    have := rsize_any k w
    rw [hk] at this
    exact this
  have HS := Lib.hid hS; clear hS hk
  go_enter Try.func23, Try.ntmps23
  go_wp2_with fail
  refine (HS.out _).mono ?_
  rintro e w1 ⟨rfl, hb1⟩
  have hb0 : Below w.heap.size w w1 := by first | exact hb1 | exact on_past (bself _ _) hb1
  clear HS
  go_wp2_with fail
  exact bodyPost_ret (v := .tuple #[.slice none 0 0, .int .i64 30]) (by simp [results, Try.results23, go_sem]) rfl ⟨rfl, hb0⟩

set_option maxHeartbeats 1000000 in
theorem rput_range (k s v : Int) (w : World) (n : Nat) (hn : n = 2 ∨ n = 4) (hk : Fr.sz k = n) (h : ¬ Fr.ok k s v) (hv : -9223372036854775808 ≤ v) (hv' : v ≤ 9223372036854775807) :
    Calls Try.prog 23 #[.agg #[.int .i64 k, .int .i64 s, .int .i64 v]] w fun e w' => e = .returned (.tuple #[.slice none 0 0, .int .i64 10]) ∧ Below w.heap.size w w' := by
  have hS : ∀ w, Calls Try.prog 37 #[.int .i64 k] w fun e w' => e = .returned (.int .i64 (n : Int)) ∧ Below w.heap.size w w' := fun w => by
    have := rsize_any k w
    rw [hk] at this
    exact this
  have HS := Lib.hid hS; clear hS
  have hno : ¬ ((0 ≤ s ∧ s ≤ 255) ∧ (n = 2 → 0 ≤ v ∧ v ≤ 65535) ∧ (n = 4 → -2147483648 ≤ v ∧ v ≤ 2147483647)) := by
    intro h2
    apply h
    unfold Fr.ok Fr.fits
    rw [hk]
    exact h2
  clear h hk
  rcases hn with rfl | rfl
  · go_enter Try.func23, Try.ntmps23
    go_wp2_with fail
    refine (HS.out _).mono ?_
    rintro e w1 ⟨rfl, hb1⟩
    have hb0 : Below w.heap.size w w1 := by first | exact hb1 | exact on_past (bself _ _) hb1
    obtain ⟨q0, q1, q2⟩ := after3 hb1
    have zw10 : w.heap.size < w1.heap.size := by have := hb1.size; simp at this; omega
    by_cases c1 : s < 0
    · have g1 : decide (s < 0) = true := decide_eq_true c1
      clear HS hno
      go_wp2_with fail
      exact bodyPost_ret (v := .tuple #[.slice none 0 0, .int .i64 10]) (by simp [results, Try.results23, go_sem]) rfl ⟨rfl, hb0⟩
    have g1 : decide (s < 0) = false := decide_eq_false c1
    by_cases c2 : 255 < s
    · have g2 : decide (255 < s) = true := decide_eq_true c2
      clear HS hno
      go_wp2_with fail
      exact bodyPost_ret (v := .tuple #[.slice none 0 0, .int .i64 10]) (by simp [results, Try.results23, go_sem]) rfl ⟨rfl, hb0⟩
    have g2 : decide (255 < s) = false := decide_eq_false c2
    by_cases c3 : v < 0
    · have g3 : decide (v < 0) = true := decide_eq_true c3
      clear HS hno
      go_wp2_with fail
      exact bodyPost_ret (v := .tuple #[.slice none 0 0, .int .i64 10]) (by simp [results, Try.results23, go_sem]) rfl ⟨rfl, hb0⟩
    have g3 : decide (v < 0) = false := decide_eq_false c3
    by_cases c4 : 65535 < v
    · have g4 : decide (65535 < v) = true := decide_eq_true c4
      clear HS hno
      go_wp2_with fail
      exact bodyPost_ret (v := .tuple #[.slice none 0 0, .int .i64 10]) (by simp [results, Try.results23, go_sem]) rfl ⟨rfl, hb0⟩
    exact absurd ⟨by omega, by omega, by omega⟩ hno
  · go_enter Try.func23, Try.ntmps23
    go_wp2_with fail
    refine (HS.out _).mono ?_
    rintro e w1 ⟨rfl, hb1⟩
    have hb0 : Below w.heap.size w w1 := by first | exact hb1 | exact on_past (bself _ _) hb1
    obtain ⟨q0, q1, q2⟩ := after3 hb1
    have zw10 : w.heap.size < w1.heap.size := by have := hb1.size; simp at this; omega
    by_cases c1 : s < 0
    · have g1 : decide (s < 0) = true := decide_eq_true c1
      clear HS hno
      go_wp2_with fail
      exact bodyPost_ret (v := .tuple #[.slice none 0 0, .int .i64 10]) (by simp [results, Try.results23, go_sem]) rfl ⟨rfl, hb0⟩
    have g1 : decide (s < 0) = false := decide_eq_false c1
    by_cases c2 : 255 < s
    · have g2 : decide (255 < s) = true := decide_eq_true c2
      clear HS hno
      go_wp2_with fail
      exact bodyPost_ret (v := .tuple #[.slice none 0 0, .int .i64 10]) (by simp [results, Try.results23, go_sem]) rfl ⟨rfl, hb0⟩
    have g2 : decide (255 < s) = false := decide_eq_false c2
    by_cases c3 : v < -2147483648
    · have g3 : decide (v < -2147483648) = true := decide_eq_true c3
      clear HS hno
      go_wp2_with fail
      exact bodyPost_ret (v := .tuple #[.slice none 0 0, .int .i64 10]) (by simp [results, Try.results23, go_sem]) rfl ⟨rfl, hb0⟩
    have g3 : decide (v < -2147483648) = false := decide_eq_false c3
    by_cases c4 : 2147483647 < v
    · have g4 : decide (2147483647 < v) = true := decide_eq_true c4
      clear HS hno
      go_wp2_with fail
      exact bodyPost_ret (v := .tuple #[.slice none 0 0, .int .i64 10]) (by simp [results, Try.results23, go_sem]) rfl ⟨rfl, hb0⟩
    exact absurd ⟨by omega, by omega, by omega⟩ hno

end Go.Proofs.Ytfaabjohlimnlaa
