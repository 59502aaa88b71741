/- The walk of odographref13.Wrong: it says 0 just of the configurations that may be. No condition. -/
import Derived.Test.YthlokgidkjejhaaProg
import Derived.Test.YthlokgidkjejhaaCfg
import Derived.Test.YthlokgidkjejhaaKit
namespace Go.Proofs.Ythlokgidkjejhaa
open Go.ChangeShapes Go.WideShapes Go.RowKit

theorem up_any (a b : Int) (w : World) (ha : 0 ≤ a) (ha' : a ≤ 1000000000000000000) (hb : 1 ≤ b) (hb' : b ≤ 1000000000000000000) :
    Calls Try.prog 12 #[.int .i64 a, .int .i64 b] w fun e w' => e = .returned (.int .i64 (upOf a b)) ∧ w = w' := by
  go_enter Try.func12, Try.ntmps12
  go_wp2
  go_ret
  exact ⟨rfl, rfl⟩

/-- what the walk says of a configuration that may not be -/
def NotNil (W : World) (e : Ending) (w' : World) : Prop := (∃ n : Int, n ≠ 0 ∧ e = .returned (.int .i64 n)) ∧ Below W.heap.size W w'
theorem NotNil.mk {W w' : World} (n : Int) (hn : n ≠ 0) (h : Below W.heap.size W w') : NotNil W (.returned (.int .i64 n)) w' := ⟨⟨n, hn, rfl⟩, h⟩
theorem upOf_nonneg {a b : Int} (ha : 0 ≤ a) (hb : 1 ≤ b) : 0 ≤ upOf a b := Int.ediv_nonneg (by omega) (by omega)
theorem upOf_le {a b : Int} (ha : 0 ≤ a) (hb : 1 ≤ b) : upOf a b ≤ a := by
  unfold upOf
  have : (a + b - 1) / b < a + 1 := by
    apply Int.ediv_lt_of_lt_mul (by omega)
    have : (a + 1) * b = a * b + b := by rw [Int.add_mul, Int.one_mul]
    have h2 : a * 1 ≤ a * b := Int.mul_le_mul_of_nonneg_left hb ha
    omega
  omega

set_option maxRecDepth 100000 in
set_option maxHeartbeats 4000000 in
theorem wrong_a (x0 x1 x2 x3 x4 x5 x6 x7 x8 x9 x10 x11 x12 x13 : Int) (w : World)
    (h : ¬ ((1 ≤ x0 ∧ x0 ≤ 1024) ∧ (131072 ≤ x1 ∧ x1 ≤ 8388608 ∧ x1 ≤ x2 ∧ x2 ≤ 8388608) ∧ ((x2 - x1) * 16 ≤ x1) ∧ (0 ≤ x3 ∧ x3 ≤ 1048576 ∧ 0 ≤ x4 ∧ x4 ≤ 65536) ∧ (0 ≤ x5 ∧ x5 ≤ 1048576) ∧ (1 ≤ x6 ∧ x6 ≤ 16777216 ∧ 1 ≤ x7 ∧ x7 ≤ 1048576))) :
    Calls Try.prog 7 #[Cfg.val ⟨x0, x1, x2, x3, x4, x5, x6, x7, x8, x9, x10, x11, x12, x13⟩] w (NotNil w) := by
  unfold Cfg.val
  go_enter Try.func7, Try.ntmps7
  go_wp2_with fail
  all_goals
    go_ret
    exact NotNil.mk _ (by simp) ((Below.refl _ _).alloc (Nat.le_refl _) _)

set_option maxRecDepth 100000 in
set_option maxHeartbeats 4000000 in
theorem wrong_b (x0 x1 x2 x3 x4 x5 x6 x7 x8 x9 x10 x11 x12 x13 : Int) (w : World)
    (g0 : 1 ≤ x0) (g1 : x0 ≤ 1024) (g2 : 131072 ≤ x1) (g3 : x1 ≤ 8388608) (g4 : x1 ≤ x2) (g5 : x2 ≤ 8388608) (g6 : (x2 - x1) * 16 ≤ x1) (g7 : 0 ≤ x3) (g8 : x3 ≤ 1048576) (g9 : 0 ≤ x4) (g10 : x4 ≤ 65536)
    (g11 : 0 ≤ x5) (g12 : x5 ≤ 1048576) (g13 : 1 ≤ x6) (g14 : x6 ≤ 16777216) (g15 : 1 ≤ x7) (g16 : x7 ≤ 1048576) (m0 : 0 ≤ x6 * x0) (m1 : x6 * x0 ≤ 17179869184)
    (h : ¬ ((x6 * x0 ≤ 32000 * x1) ∧ (0 ≤ x8 ∧ x8 ≤ 1048576) ∧ (1 ≤ x9 ∧ x9 ≤ 1000 ∧ 1 ≤ x12 ∧ x12 ≤ 1000))) :
    Calls Try.prog 7 #[Cfg.val ⟨x0, x1, x2, x3, x4, x5, x6, x7, x8, x9, x10, x11, x12, x13⟩] w (NotNil w) := by
  unfold Cfg.val
  go_enter Try.func7, Try.ntmps7
  go_wp2_with fail
  all_goals
    go_ret
    exact NotNil.mk _ (by simp) ((Below.refl _ _).alloc (Nat.le_refl _) _)

end Go.Proofs.Ythlokgidkjejhaa
