/- The walk of watch's Mode, and what the law WatchPlays counts, in plain numbers. No condition. -/
import Derived.Test.YthlokgidkjejhaaWc
namespace Go.Proofs.Ythlokgidkjejhaa
open Go.ChangeShapes Go.WideShapes Go.RowKit Go.Sort

def modeOf (f on : Bool) (fit : Int) (conf : Bool) : Int := if f then 4 else if !on then 1 else if fit < 2 ∨ conf = true then 3 else 2

theorem mode_any (s r : Int) (f on : Bool) (fit : Int) (conf : Bool) (w : World) :
    Calls Try.prog 10 #[.agg #[.int .i64 s, .int .i64 r, .bool f], .bool on, .int .i64 fit, .bool conf] w fun e w' => e = .returned (.int .i64 (modeOf f on fit conf)) ∧ Below w.heap.size w w' := by
  cases f <;> cases on <;> cases conf
  all_goals
    go_enter Try.func10, Try.ntmps10
    go_wp2
  all_goals
    go_ret
    exact ⟨ret_int (by simp [modeOf]; try omega), bself _ _⟩

/-- for how many cycles there was none -/
def lackOf (n : Int) (none : Bool) : Int := if none then n + 1 else 0

theorem count_lack (n t : Int) (more : Bool) (ht : 1 ≤ t) : countOf (min n (t + 1)) (t + 1) more = min (lackOf n more) (t + 1) := by
  unfold countOf lackOf
  cases more <;> simp <;> omega
theorem lack_bd (n : Int) (more : Bool) (k : Int) (hn : 0 ≤ n) (hk : n ≤ k) (h0 : 0 ≤ k) : 0 ≤ lackOf n more ∧ lackOf n more ≤ k + 1 := by
  unfold lackOf; split <;> omega
theorem fail_lack (n m t : Int) (was over acc : Bool) : failOf (min n (t + 1)) (min m (t + 1)) t was over acc = ((((!acc && was) || over) || decide (t < n)) || decide (t < m)) := by
  unfold failOf
  have h1 : decide (t < min n (t + 1)) = decide (t < n) := by rw [decide_eq_decide]; omega
  have h2 : decide (t < min m (t + 1)) = decide (t < m) := by rw [decide_eq_decide]; omega
  rw [h1, h2]
  cases was <;> cases over <;> cases acc <;> cases decide (t < n) <;> cases decide (t < m) <;> rfl

end Go.Proofs.Ythlokgidkjejhaa
