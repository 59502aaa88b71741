/- The walk of odographref13.Wrong, second part: it says 0 just of the configurations that may be. No condition. -/
import Derived.Test.YthlokgidkjejhaaWr
namespace Go.Proofs.Ythlokgidkjejhaa
open Go.ChangeShapes Go.WideShapes Go.RowKit

set_option maxRecDepth 100000 in
set_option maxHeartbeats 1000000 in
theorem wrong_c (x0 x1 x2 x3 x4 x5 x6 x7 x8 x9 x10 x11 x12 x13 : Int) (w : World)
    (g0 : 1 ≤ x0) (g1 : x0 ≤ 1024) (g2 : 131072 ≤ x1) (g3 : x1 ≤ 8388608) (g4 : x1 ≤ x2) (g5 : x2 ≤ 8388608) (g6 : (x2 - x1) * 16 ≤ x1) (g7 : 0 ≤ x3) (g8 : x3 ≤ 1048576) (g9 : 0 ≤ x4) (g10 : x4 ≤ 65536)
    (g11 : 0 ≤ x5) (g12 : x5 ≤ 1048576) (g13 : 1 ≤ x6) (g14 : x6 ≤ 16777216) (g15 : 1 ≤ x7) (g16 : x7 ≤ 1048576) (m0 : 0 ≤ x6 * x0) (m1 : x6 * x0 ≤ 32000 * x1)
    (g17 : 0 ≤ x8) (g18 : x8 ≤ 1048576) (g19 : 1 ≤ x9) (g20 : x9 ≤ 1000) (g21 : 1 ≤ x12) (g22 : x12 ≤ 1000)
    (h : x10 < upOf x2 x0) :
    Calls Try.prog 7 #[Cfg.val ⟨x0, x1, x2, x3, x4, x5, x6, x7, x8, x9, x10, x11, x12, x13⟩] w (NotNil w) := by
  unfold Cfg.val
  have hd : decide (x10 < upOf x2 x0) = true := by simpa using h
  go_enter Try.func7, Try.ntmps7
  go_wp2_with fail
  go_quiet ((go_at_call 12; exact quiet_eq (up_any _ _ _ (by omega) (by omega) (by omega) (by omega))))
  go_wp2_with fail
  all_goals
    go_ret
    exact NotNil.mk _ (by simp) (bdN (bself _ _) _)

set_option maxRecDepth 100000 in
set_option maxHeartbeats 1000000 in
theorem wrong_d (x0 x1 x2 x3 x4 x5 x6 x7 x8 x9 x10 x11 x12 x13 : Int) (w : World)
    (g0 : 1 ≤ x0) (g1 : x0 ≤ 1024) (g2 : 131072 ≤ x1) (g3 : x1 ≤ 8388608) (g4 : x1 ≤ x2) (g5 : x2 ≤ 8388608) (g6 : (x2 - x1) * 16 ≤ x1) (g7 : 0 ≤ x3) (g8 : x3 ≤ 1048576) (g9 : 0 ≤ x4) (g10 : x4 ≤ 65536)
    (g11 : 0 ≤ x5) (g12 : x5 ≤ 1048576) (g13 : 1 ≤ x6) (g14 : x6 ≤ 16777216) (g15 : 1 ≤ x7) (g16 : x7 ≤ 1048576) (m0 : 0 ≤ x6 * x0) (m1 : x6 * x0 ≤ 32000 * x1)
    (g17 : 0 ≤ x8) (g18 : x8 ≤ 1048576) (g19 : 1 ≤ x9) (g20 : x9 ≤ 1000) (g21 : 1 ≤ x12) (g22 : x12 ≤ 1000)
    (h0 : upOf x2 x0 ≤ x10) (h : x10 < 3 * x3) :
    Calls Try.prog 7 #[Cfg.val ⟨x0, x1, x2, x3, x4, x5, x6, x7, x8, x9, x10, x11, x12, x13⟩] w (NotNil w) := by
  unfold Cfg.val
  have hd : decide (x10 < upOf x2 x0) = false := by simpa using h0
  have he : decide (x10 < 3 * x3) = true := by simpa using h
  go_enter Try.func7, Try.ntmps7
  go_wp2_with fail
  go_quiet ((go_at_call 12; exact quiet_eq (up_any _ _ _ (by omega) (by omega) (by omega) (by omega))))
  go_wp2_with fail
  all_goals
    go_ret
    exact NotNil.mk _ (by simp) (bdN (bself _ _) _)

set_option maxRecDepth 100000 in
set_option maxHeartbeats 1000000 in
theorem wrong_e (x0 x1 x2 x3 x4 x5 x6 x7 x8 x9 x10 x11 x12 x13 : Int) (w : World)
    (g0 : 1 ≤ x0) (g1 : x0 ≤ 1024) (g2 : 131072 ≤ x1) (g3 : x1 ≤ 8388608) (g4 : x1 ≤ x2) (g5 : x2 ≤ 8388608) (g6 : (x2 - x1) * 16 ≤ x1) (g7 : 0 ≤ x3) (g8 : x3 ≤ 1048576) (g9 : 0 ≤ x4) (g10 : x4 ≤ 65536)
    (g11 : 0 ≤ x5) (g12 : x5 ≤ 1048576) (g13 : 1 ≤ x6) (g14 : x6 ≤ 16777216) (g15 : 1 ≤ x7) (g16 : x7 ≤ 1048576) (m0 : 0 ≤ x6 * x0) (m1 : x6 * x0 ≤ 32000 * x1)
    (g17 : 0 ≤ x8) (g18 : x8 ≤ 1048576) (g19 : 1 ≤ x9) (g20 : x9 ≤ 1000) (g21 : 1 ≤ x12) (g22 : x12 ≤ 1000)
    (h0 : upOf x2 x0 ≤ x10) (h1 : 3 * x3 ≤ x10) (h : ¬ (x10 ≤ 16777216 ∧ (0 ≤ x11 ∧ x11 ≤ 1073741824) ∧ (1 ≤ x13 ∧ x13 ≤ 1048576))) :
    Calls Try.prog 7 #[Cfg.val ⟨x0, x1, x2, x3, x4, x5, x6, x7, x8, x9, x10, x11, x12, x13⟩] w (NotNil w) := by
  unfold Cfg.val
  have hd : decide (x10 < upOf x2 x0) = false := by simpa using h0
  have he : decide (x10 < 3 * x3) = false := by simpa using h1
  go_enter Try.func7, Try.ntmps7
  go_wp2_with fail
  go_quiet ((go_at_call 12; exact quiet_eq (up_any _ _ _ (by omega) (by omega) (by omega) (by omega))))
  go_wp2_with fail
  all_goals
    go_ret
    exact NotNil.mk _ (by simp) (bdN (bself _ _) _)

set_option maxRecDepth 100000 in
set_option maxHeartbeats 1000000 in
theorem wrong_f (x0 x1 x2 x3 x4 x5 x6 x7 x8 x9 x10 x11 x12 x13 : Int) (w : World)
    (g0 : 1 ≤ x0) (g1 : x0 ≤ 1024) (g2 : 131072 ≤ x1) (g3 : x1 ≤ 8388608) (g4 : x1 ≤ x2) (g5 : x2 ≤ 8388608) (g6 : (x2 - x1) * 16 ≤ x1) (g7 : 0 ≤ x3) (g8 : x3 ≤ 1048576) (g9 : 0 ≤ x4) (g10 : x4 ≤ 65536)
    (g11 : 0 ≤ x5) (g12 : x5 ≤ 1048576) (g13 : 1 ≤ x6) (g14 : x6 ≤ 16777216) (g15 : 1 ≤ x7) (g16 : x7 ≤ 1048576) (m0 : 0 ≤ x6 * x0) (m1 : x6 * x0 ≤ 32000 * x1)
    (g17 : 0 ≤ x8) (g18 : x8 ≤ 1048576) (g19 : 1 ≤ x9) (g20 : x9 ≤ 1000) (g21 : 1 ≤ x12) (g22 : x12 ≤ 1000)
    (h0 : upOf x2 x0 ≤ x10) (h1 : 3 * x3 ≤ x10) (h2 : x10 ≤ 16777216) (h3 : 0 ≤ x11) (h4 : x11 ≤ 1073741824) (h5 : 1 ≤ x13) (h6 : x13 ≤ 1048576) :
    Calls Try.prog 7 #[Cfg.val ⟨x0, x1, x2, x3, x4, x5, x6, x7, x8, x9, x10, x11, x12, x13⟩] w fun e w' => e = .returned (.int .i64 0) ∧ Below w.heap.size w w' := by
  unfold Cfg.val
  have hd : decide (x10 < upOf x2 x0) = false := by simpa using h0
  have he : decide (x10 < 3 * x3) = false := by simpa using h1
  go_enter Try.func7, Try.ntmps7
  go_wp2_with fail
  go_quiet ((go_at_call 12; exact quiet_eq (up_any _ _ _ (by omega) (by omega) (by omega) (by omega))))
  go_wp2_with fail
  all_goals
    go_ret
    exact ⟨rfl, bdN (bself _ _) _⟩


/-- a configuration that may be -/
theorem wrong_ok (c : Cfg) (w : World) (h : c.ok) : Calls Try.prog 7 #[c.val] w fun e w' => e = .returned (.int .i64 0) ∧ Below w.heap.size w w' := by
  obtain ⟨r1, r2, r3, r4, r5, r6, r7, r8, r9, r10, r11, r12⟩ := h
  exact wrong_f c.pulses c.circLo c.circHi c.radBase c.radPart c.accErr c.maxSpeed c.maxAccel c.antenna c.still c.stillSpeed c.roll c.timeout c.brake w r1.1 r1.2 r2.1 r2.2.1 r2.2.2.1 r2.2.2.2 r3 r4.1 r4.2.1 r4.2.2.1 r4.2.2.2 r5.1 r5.2 r6.1 r6.2.1 r6.2.2.1 r6.2.2.2
    (Int.mul_nonneg (by have := r6.1; omega) (by have := r1.1; omega)) r7 r8.1 r8.2 r9.1 r9.2.1 r9.2.2.1 r9.2.2.2 r10.1 r10.2.1 r10.2.2 r11.1 r11.2 r12.1 r12.2

/-- one that may not be -/
theorem wrong_bad (c : Cfg) (w : World) (h : ¬ c.ok) : Calls Try.prog 7 #[c.val] w (NotNil w) := by
  by_cases ha : c.r1 ∧ c.r2 ∧ c.r3 ∧ c.r4 ∧ c.r5 ∧ c.r6
  · obtain ⟨r1, r2, r3, r4, r5, r6⟩ := ha
    have m0 : 0 ≤ c.maxSpeed * c.pulses := Int.mul_nonneg (by have := r6.1; omega) (by have := r1.1; omega)
    have m1 : c.maxSpeed * c.pulses ≤ 17179869184 := by
      have : c.maxSpeed * c.pulses ≤ 16777216 * 1024 := Int.mul_le_mul r6.2.1 r1.2 (by have := r1.1; omega) (by omega)
      omega
    by_cases hb : c.r7 ∧ c.r8 ∧ c.r9
    · obtain ⟨r7, r8, r9⟩ := hb
      by_cases h0 : c.stillSpeed < upOf c.circHi c.pulses
      · exact wrong_c _ _ _ _ _ _ _ _ _ _ _ _ _ _ w r1.1 r1.2 r2.1 r2.2.1 r2.2.2.1 r2.2.2.2 r3 r4.1 r4.2.1 r4.2.2.1 r4.2.2.2 r5.1 r5.2 r6.1 r6.2.1 r6.2.2.1 r6.2.2.2 m0 r7 r8.1 r8.2 r9.1 r9.2.1 r9.2.2.1 r9.2.2.2 h0
      · by_cases h1 : c.stillSpeed < 3 * c.radBase
        · exact wrong_d _ _ _ _ _ _ _ _ _ _ _ _ _ _ w r1.1 r1.2 r2.1 r2.2.1 r2.2.2.1 r2.2.2.2 r3 r4.1 r4.2.1 r4.2.2.1 r4.2.2.2 r5.1 r5.2 r6.1 r6.2.1 r6.2.2.1 r6.2.2.2 m0 r7 r8.1 r8.2 r9.1 r9.2.1 r9.2.2.1 r9.2.2.2 (by omega) h1
        · exact wrong_e _ _ _ _ _ _ _ _ _ _ _ _ _ _ w r1.1 r1.2 r2.1 r2.2.1 r2.2.2.1 r2.2.2.2 r3 r4.1 r4.2.1 r4.2.2.1 r4.2.2.2 r5.1 r5.2 r6.1 r6.2.1 r6.2.2.1 r6.2.2.2 m0 r7 r8.1 r8.2 r9.1 r9.2.1 r9.2.2.1 r9.2.2.2 (by omega) (by omega)
            (fun ⟨a, b, d⟩ => h ⟨r1, r2, r3, r4, r5, r6, r7, r8, r9, ⟨by omega, by omega, a⟩, b, d⟩)
    · exact wrong_b _ _ _ _ _ _ _ _ _ _ _ _ _ _ w r1.1 r1.2 r2.1 r2.2.1 r2.2.2.1 r2.2.2.2 r3 r4.1 r4.2.1 r4.2.2.1 r4.2.2.2 r5.1 r5.2 r6.1 r6.2.1 r6.2.2.1 r6.2.2.2 m0 m1 hb
  · exact wrong_a _ _ _ _ _ _ _ _ _ _ _ _ _ _ w ha

end Go.Proofs.Ythlokgidkjejhaa
