/- The walk of the law WatchLeaves: it returns true and writes nothing that was there. No condition. -/
import Derived.Test.YthlokgidkjejhaaWc
import Derived.Test.YthlokgidkjejhaaWs
namespace Go.Proofs.Ythlokgidkjejhaa
open Go.ChangeShapes Go.WideShapes Go.RowKit Go.Sort

set_option maxHeartbeats 1000000 in
theorem leaves_bad (c : Cfg) (s r fit : Int) (f conf over acc on : Bool) (w : World) (h : ¬ c.ok) :
    Calls Try.prog 3 #[c.val, .agg #[.int .i64 s, .int .i64 r, .bool f], .agg #[.int .i64 fit, .bool conf, .bool over, .bool acc, .bool on]] w fun e w' => e = .returned (.bool true) ∧ Below w.heap.size w w' := by
  have hw := fun w => wrong_bad c w h
  have hW := Lib.hid hw; clear hw h
  unfold Cfg.val
  go_enter Try.func3, Try.ntmps3
  go_wp2_with fail
  refine (anchor_any _).mono ?_
  rintro e w1 ⟨rfl, hb1⟩
  obtain ⟨hc, hf, hl⟩ := bcell hb1
  go_wp2_with fail
  refine (hW.out _).mono ?_
  rintro e w2 ⟨⟨n, hn, rfl⟩, hb2⟩
  have hn' : (n != 0) = true := by simpa using hn
  go_wp2_with fail
  go_ret
  exact ⟨rfl, on_past (on_past (bself3 _ _ _ _) hb1) hb2⟩

set_option maxHeartbeats 2000000 in
theorem leaves_out (c : Cfg) (s r fit : Int) (f conf over acc on : Bool) (w : World) (h : c.ok) (ht : 1 ≤ c.timeout) (ht' : c.timeout ≤ 1000) (hs : ¬ (0 ≤ s ∧ s ≤ c.timeout + 1 ∧ 0 ≤ r ∧ r ≤ c.timeout + 1)) :
    Calls Try.prog 3 #[c.val, .agg #[.int .i64 s, .int .i64 r, .bool f], .agg #[.int .i64 fit, .bool conf, .bool over, .bool acc, .bool on]] w fun e w' => e = .returned (.bool true) ∧ Below w.heap.size w w' := by
  have hw := fun w => wrong_ok c w h
  have hW := Lib.hid hw; clear hw h
  unfold Cfg.val
  go_enter Try.func3, Try.ntmps3
  go_wp2_with fail
  refine (anchor_any _).mono ?_
  rintro e w1 ⟨rfl, hb1⟩
  obtain ⟨hc, hf, hl⟩ := bcell hb1
  go_wp2_with fail
  refine (hW.out _).mono ?_
  rintro e w2 ⟨rfl, hb2⟩
  have hb12 := Past.trans hb1 hb2
  clear hc hf hl
  obtain ⟨hc, hf, hl⟩ := bcell hb12
  have zw20 : w.heap.size < w2.heap.size := by have := hb12.size; simp at this; omega
  have zw21 : w.heap.size + 1 < w2.heap.size := by have := hb12.size; simp at this; omega
  have zw22 : w.heap.size + 1 + 1 < w2.heap.size := by have := hb12.size; simp at this; omega
  go_wp2_with fail
  all_goals
    go_ret
    exact ⟨rfl, on_past (on_past (bself3 _ _ _ _) hb1) hb2⟩

theorem leaves_law (s r t fit : Int) (conf over acc : Bool) (ht : 1 ≤ t) (hs' : s ≤ t + 1) (hr' : r ≤ t + 1) :
    failOf (countOf s (t + 1) (decide (fit < 1))) (countOf r (t + 1) conf) t true over acc = ((over || (decide (fit < 1) && decide (t ≤ s)) || (conf && decide (t ≤ r))) || !acc) := by
  unfold failOf countOf
  by_cases h1 : fit < 1 <;> by_cases h2 : t ≤ s <;> by_cases h3 : t ≤ r <;> cases conf <;> cases over <;> cases acc <;> simp [h1, h2, h3] <;> omega

set_option maxHeartbeats 1500000 in
theorem leaves_in (c : Cfg) (s r fit : Int) (f conf over acc on : Bool) (w : World) (h : c.ok) (ht : 1 ≤ c.timeout) (ht' : c.timeout ≤ 1000) (hs : 0 ≤ s) (hs' : s ≤ c.timeout + 1) (hr : 0 ≤ r) (hr' : r ≤ c.timeout + 1) :
    Calls Try.prog 3 #[c.val, .agg #[.int .i64 s, .int .i64 r, .bool f], .agg #[.int .i64 fit, .bool conf, .bool over, .bool acc, .bool on]] w fun e w' => e = .returned (.bool true) ∧ Below w.heap.size w w' := by
  have hw := fun w => wrong_ok c w h
  have hW := Lib.hid hw; clear hw h
  have hL := Lib.hid (leaves_law s r c.timeout fit conf over acc ht hs' hr')
  unfold Cfg.val
  go_enter Try.func3, Try.ntmps3
  go_wp2_with fail
  refine (anchor_any _).mono ?_
  rintro e w1 ⟨rfl, hb1⟩
  obtain ⟨hc, hf, hl⟩ := bcell hb1
  go_wp2_with fail
  refine (hW.out _).mono ?_
  rintro e w2 ⟨rfl, hb2⟩
  have hb12 := Past.trans hb1 hb2
  clear hc hf hl
  obtain ⟨hc, hf, hl⟩ := bcell hb12
  have zw20 : w.heap.size < w2.heap.size := by have := hb12.size; simp at this; omega
  have zw21 : w.heap.size + 1 < w2.heap.size := by have := hb12.size; simp at this; omega
  have zw22 : w.heap.size + 1 + 1 < w2.heap.size := by have := hb12.size; simp at this; omega
  go_wp2_with fail
  refine (next_any s r true c fit conf over acc _ (by omega) (by omega) (by omega) (by omega) (by omega) (by omega)).mono ?_
  rintro e w3 ⟨rfl, hb3⟩
  obtain ⟨hc3, hf3, hl3⟩ := bcell hb3
  generalize hX : failOf (countOf s (c.timeout + 1) (decide (fit < 1))) (countOf r (c.timeout + 1) conf) c.timeout true over acc = X
  have hX' := Lib.hid hX; clear hX
  generalize countOf s (c.timeout + 1) (decide (fit < 1)) = sil
  generalize countOf r (c.timeout + 1) conf = str
  go_wp2_with fail
  all_goals
    go_ret
    refine ⟨ret_bool ?_, on_alloc (on_past (on_set (on_past (bself3 _ _ _ _) hb12) (by simp) _) hb3) _⟩
    have e := hX'.out
    rw [hL.out] at e
    rw [← e]
    clear hb1 hb2 hb12 hb3 hc hf hl hc3 hf3 hl3 hW hX' hL e
    by_cases q1 : fit < 1 <;> by_cases q2 : c.timeout ≤ s <;> by_cases q3 : c.timeout ≤ r <;> first | omega | ((try simp only [q1, q2, q3, decide_true, decide_false]); (try clear q1 q2 q3); simp_all; done)

theorem leaves_walk (c : Cfg) (s r fit : Int) (f conf over acc on : Bool) (w : World) :
    Calls Try.prog 3 #[c.val, .agg #[.int .i64 s, .int .i64 r, .bool f], .agg #[.int .i64 fit, .bool conf, .bool over, .bool acc, .bool on]] w fun e w' => e = .returned (.bool true) ∧ Below w.heap.size w w' := by
  by_cases h : c.ok
  · have ht := h.2.2.2.2.2.2.2.2.1.2.2.1
    have ht' := h.2.2.2.2.2.2.2.2.1.2.2.2
    by_cases hs : 0 ≤ s ∧ s ≤ c.timeout + 1 ∧ 0 ≤ r ∧ r ≤ c.timeout + 1
    · exact leaves_in c s r fit f conf over acc on w h ht ht' hs.1 hs.2.1 hs.2.2.1 hs.2.2.2
    · exact leaves_out c s r fit f conf over acc on w h ht ht' hs
  · exact leaves_bad c s r fit f conf over acc on w h

end Go.Proofs.Ythlokgidkjejhaa
