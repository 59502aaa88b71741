/- The walks of the package watch. No condition. -/
import Derived.Test.YthlokgidkjejhaaProg
import Derived.Test.YthlokgidkjejhaaKit
import Derived.Test.YthlokgidkjejhaaCfg
namespace Go.Proofs.Ythlokgidkjejhaa
open Go.ChangeShapes Go.WideShapes Go.RowKit

theorem count_no (n m : Int) (w : World) :
    Calls Try.prog 13 #[.int .i64 n, .int .i64 m, .bool false] w fun e w' => e = .returned (.int .i64 0) ∧ w = w' := by
  go_enter Try.func13, Try.ntmps13
  go_wp2
  go_ret
  exact ⟨rfl, rfl⟩

theorem count_yes (n m : Int) (w : World) (h0 : 0 ≤ n) (h1 : n ≤ 1000000) :
    Calls Try.prog 13 #[.int .i64 n, .int .i64 m, .bool true] w fun e w' => e = .returned (.int .i64 (min (n + 1) m)) ∧ w = w' := by
  go_enter Try.func13, Try.ntmps13
  go_wp2
  all_goals
    go_ret
    exact ⟨ret_int (by show _ = min (n + 1) m; first | (show n + 1 = _; omega) | (show m = _; omega)), rfl⟩

/-- one more, up to a greatest one, or nothing -/
def countOf (n m : Int) (more : Bool) : Int := if more then min (n + 1) m else 0

theorem count_any (n m : Int) (more : Bool) (w : World) (h0 : 0 ≤ n) (h1 : n ≤ 1000000) :
    Calls Try.prog 13 #[.int .i64 n, .int .i64 m, .bool more] w fun e w' => e = .returned (.int .i64 (countOf n m more)) ∧ w = w' := by
  cases more
  · exact count_no n m w
  · exact count_yes n m w h0 h1

theorem countOf_bd (n m : Int) (more : Bool) (h0 : 0 ≤ n) (h2 : 0 ≤ m) : 0 ≤ countOf n m more ∧ countOf n m more ≤ m := by
  unfold countOf; split <;> omega

/-- whether all failed, behind a cycle -/
def failOf (sil str t : Int) (was over acc : Bool) : Bool := over || decide (t < sil) || decide (t < str) || (was && !acc)

set_option maxHeartbeats 1000000 in
theorem next_any (s r : Int) (f : Bool) (c : Cfg) (fit : Int) (conf over acc : Bool) (w : World) (hs : 0 ≤ s) (hs' : s ≤ 2000) (hr : 0 ≤ r) (hr' : r ≤ 2000) (ht : 1 ≤ c.timeout) (ht' : c.timeout ≤ 1000) :
    Calls Try.prog 8 #[.agg #[.int .i64 s, .int .i64 r, .bool f], c.val, .int .i64 fit, .bool conf, .bool over, .bool acc] w fun e w' =>
      e = .returned (.agg #[.int .i64 (countOf s (c.timeout + 1) (decide (fit < 1))), .int .i64 (countOf r (c.timeout + 1) conf), .bool (failOf (countOf s (c.timeout + 1) (decide (fit < 1))) (countOf r (c.timeout + 1) conf) c.timeout f over acc)]) ∧ Below w.heap.size w w' := by
  have b1 := countOf_bd s (c.timeout + 1) (decide (fit < 1)) hs (by omega)
  have b2 := countOf_bd r (c.timeout + 1) conf hr (by omega)
  unfold Cfg.val
  cases over <;> cases f
  all_goals
    go_enter Try.func8, Try.ntmps8
    go_wp2_with ((go_at_call 13; refine (count_any _ _ _ _ (by omega) (by omega)).mono ?_; rintro e w' ⟨rfl, rfl⟩))
  all_goals
    refine bodyPost_ret (v := .agg #[.int .i64 (countOf s (c.timeout + 1) (decide (fit < 1))), .int .i64 (countOf r (c.timeout + 1) conf), .bool _]) (by simp [results, Try.results8, go_sem]; exact rfl) rfl ⟨?_, ?_⟩
  all_goals first
    | exact bself3 _ _ _ _
    | (unfold failOf; congr 4; simp_all; done)
    | (unfold failOf; congr 4; done)

/-- the configuration of the law's anchor -/
def usualOf (n : Int) : Cfg := ⟨1024, 131072, 131072, 0, 0, 0, 1000, 100, 0, 1, 128, 0, n, 2⟩

theorem usual_any (n : Int) (w : World) :
    Calls Try.prog 11 #[.int .i64 n] w fun e w' => e = .returned (Cfg.val (usualOf n)) ∧ Below w.heap.size w w' := by
  go_enter Try.func11, Try.ntmps11
  go_wp2
  refine bodyPost_ret (v := Cfg.val (usualOf n)) (by simp [results, Try.results11, go_sem, usualOf]) rfl ⟨rfl, ?_⟩
  exact bself _ _

end Go.Proofs.Ythlokgidkjejhaa
