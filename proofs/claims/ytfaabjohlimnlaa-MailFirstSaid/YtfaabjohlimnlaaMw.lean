/- The walk of what a mail is asked: Of, Quiet. No condition. -/
import Derived.Test.YtfaabjohlimnlaaGu
import Derived.Test.YtfaabjohlimnlaaMm
import Derived.Deep.DeepCutAuto
namespace Go.Proofs.Ytfaabjohlimnlaa
open Go.ChangeShapes Go.WideShapes Go.RowKit Go.Sort
set_option linter.unusedVariables false
set_option linter.unusedSimpArgs false

@[go_sem] theorem eq4 (a b c d a' b' c' d' : Int) (w : World) : (Op.equalIn 10000 58 (.agg #[.int .i64 a, .int .i64 b, .int .i64 c, .int .i64 d]) (.agg #[.int .i64 a', .int .i64 b', .int .i64 c', .int .i64 d'])).run Try.prog w = .ok (a == a' && b == b' && c == c' && d == d') w := by
  have u3 := Try.underlying3
  have a3 := Try.isAgg3
  have z3 := Try.sizeOf3
  rw [show (10000 : Nat) = 9999 + 1 from rfl, Op.equalIn]
  simp only [Sem.run_bind, run_underlying Try.underlying58, Result.andThen_ok]
  simp only [Std.Legacy.Range.forIn_eq_forIn_range', Std.Legacy.Range.size, Nat.sub_zero, Nat.add_sub_cancel, Nat.div_one, List.range'_succ, List.range'_zero, List.forIn_cons, List.forIn_nil]
  go_simp
  by_cases h1 : a = a' <;> by_cases h2 : b = b' <;> by_cases h3 : c = c' <;> by_cases h4 : d = d' <;> simp [h1, h2, h3, h4]

/-- a mail, as a value -/
def mv (H : Nat → Bool) (V : Nat → Int) (bad stale twice beyond : Int) : Value :=
  .agg #[.bool (H 0), .bool (H 1), .bool (H 2), .bool (H 3), .bool (H 4), .bool (H 5), .int .i64 (V 0), .int .i64 (V 1), .int .i64 (V 2), .int .i64 (V 3), .int .i64 (V 4), .int .i64 (V 5), .int .i64 bad, .int .i64 stale, .int .i64 twice, .int .i64 beyond]

set_option maxHeartbeats 1000000 in
theorem of_out (H : Nat → Bool) (V : Nat → Int) (bad stale twice beyond k : Int) (w : World) (hk : ¬ (0 ≤ k ∧ k < 6)) :
    Calls Try.prog 31 #[mv H V bad stale twice beyond, .int .i64 k] w fun e w' => e = .returned (.tuple #[.int .i64 0, .bool false]) ∧ Below w.heap.size w w' := by
  unfold mv
  by_cases h0 : k < 0
  · clear hk
    go_enter Try.func31, Try.ntmps31
    go_wp2_with fail
    exact bodyPost_ret (v := .tuple #[.int .i64 0, .bool false]) (by simp [results, Try.results31, go_sem]) rfl ⟨rfl, bself _ _⟩
  · have h6 : 6 ≤ k := by omega
    clear hk
    go_enter Try.func31, Try.ntmps31
    go_wp2_with fail
    exact bodyPost_ret (v := .tuple #[.int .i64 0, .bool false]) (by simp [results, Try.results31, go_sem]) rfl ⟨rfl, bself _ _⟩

set_option maxHeartbeats 1000000 in
theorem of_in (H : Nat → Bool) (V : Nat → Int) (bad stale twice beyond : Int) (k : Nat) (w : World) (hk : k < 6) :
    Calls Try.prog 31 #[mv H V bad stale twice beyond, .int .i64 k] w fun e w' => e = .returned (.tuple #[.int .i64 (V k), .bool (H k)]) ∧ Below w.heap.size w w' := by
  unfold mv
  obtain rfl | rfl | rfl | rfl | rfl | rfl : k = 0 ∨ k = 1 ∨ k = 2 ∨ k = 3 ∨ k = 4 ∨ k = 5 := by omega
  all_goals
    clear hk
    go_enter Try.func31, Try.ntmps31
    go_wp2_with fail
    go_quiet (fail)
    go_wp2_with fail
    exact bodyPost_ret (v := .tuple #[.int .i64 (V _), .bool (H _)]) (by simp [results, Try.results31, go_sem]) rfl ⟨rfl, bdN (bself _ _) _⟩

set_option maxHeartbeats 1000000 in
theorem quiet_any (H : Nat → Bool) (V : Nat → Int) (bad stale twice beyond : Int) (w : World) :
    Calls Try.prog 32 #[mv H V bad stale twice beyond] w fun e w' => e = .returned (.bool (bad == 0 && stale == 0 && twice == 0 && beyond == 0)) ∧ Below w.heap.size w w' := by
  unfold mv
  go_enter Try.func32, Try.ntmps32
  go_wp2_with fail
  go_ret
  exact ⟨rfl, bself _ _⟩

end Go.Proofs.Ytfaabjohlimnlaa
