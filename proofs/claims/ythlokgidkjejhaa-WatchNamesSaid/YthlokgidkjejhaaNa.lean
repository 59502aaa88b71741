/- The walk of the law WatchNames: it returns true and writes nothing that was there. No condition. -/
import Derived.Test.YthlokgidkjejhaaWc
namespace Go.Proofs.Ythlokgidkjejhaa
open Go.ChangeShapes Go.WideShapes Go.RowKit Go.Sort

theorem name_out (m : Int) (w : World) (h : m < 1 ∨ 4 < m) :
    Calls Try.prog 9 #[.int .i64 m] w fun e w' => e = .returned (.string ⟨#[]⟩) ∧ Below w.heap.size w w' := by
  go_enter Try.func9, Try.ntmps9
  go_wp2
  all_goals
    go_ret
    exact ⟨rfl, bself _ _⟩

theorem name_1 (w : World) : Calls Try.prog 9 #[.int .i64 1] w fun e w' => e = .returned (.string ⟨#[117, 110, 108, 111, 99, 97, 116, 101, 100]⟩) ∧ Below w.heap.size w w' := by
  go_enter Try.func9, Try.ntmps9
  go_wp2
  go_ret
  exact ⟨rfl, bself _ _⟩
theorem name_2 (w : World) : Calls Try.prog 9 #[.int .i64 2] w fun e w' => e = .returned (.string ⟨#[108, 111, 99, 97, 116, 101, 100]⟩) ∧ Below w.heap.size w w' := by
  go_enter Try.func9, Try.ntmps9
  go_wp2
  go_ret
  exact ⟨rfl, bself _ _⟩
theorem name_3 (w : World) : Calls Try.prog 9 #[.int .i64 3] w fun e w' => e = .returned (.string ⟨#[100, 101, 103, 114, 97, 100, 101, 100]⟩) ∧ Below w.heap.size w w' := by
  go_enter Try.func9, Try.ntmps9
  go_wp2
  go_ret
  exact ⟨rfl, bself _ _⟩
theorem name_4 (w : World) : Calls Try.prog 9 #[.int .i64 4] w fun e w' => e = .returned (.string ⟨#[102, 97, 105, 108, 101, 100]⟩) ∧ Below w.heap.size w w' := by
  go_enter Try.func9, Try.ntmps9
  go_wp2
  go_ret
  exact ⟨rfl, bself _ _⟩

theorem names_out (m : Int) (w : World) (h : m < 1 ∨ 4 < m) :
    Calls Try.prog 4 #[.int .i64 m] w fun e w' => e = .returned (.bool true) ∧ Below w.heap.size w w' := by
  go_enter Try.func4, Try.ntmps4
  go_wp2_with fail
  refine (anchor_any _).mono ?_
  rintro e w1 ⟨rfl, hb1⟩
  obtain ⟨hc, hf, hl⟩ := bcell hb1
  go_wp2_with fail
  all_goals
    refine (name_out m _ h).mono ?_
    rintro e w2 ⟨rfl, hb2⟩
    go_wp2_with fail
    go_ret
    exact ⟨rfl, on_past (on_alloc hb1 _) hb2⟩

theorem names_1 (w : World) :
    Calls Try.prog 4 #[.int .i64 1] w fun e w' => e = .returned (.bool true) ∧ Below w.heap.size w w' := by
  go_enter Try.func4, Try.ntmps4
  go_wp2_with fail
  refine (anchor_any _).mono ?_
  rintro e w1 ⟨rfl, hb1⟩
  obtain ⟨hc, hf, hl⟩ := bcell hb1
  go_wp2_with fail
  refine wp_region_past (by kernel_rfl) (by kernel_rfl) (fun hG => ?_)
  repeat (go_big_quiet_step ((go_at_call 9; exact Calls.regrown_of (name_1 _))))
  refine wpQuiet_nil ?_
  intro w2 hb2
  clear hG
  go_wp2_with fail
  go_ret
  exact ⟨rfl, on_past (on_alloc hb1 _) hb2⟩

theorem names_2 (w : World) :
    Calls Try.prog 4 #[.int .i64 2] w fun e w' => e = .returned (.bool true) ∧ Below w.heap.size w w' := by
  go_enter Try.func4, Try.ntmps4
  go_wp2_with fail
  refine (anchor_any _).mono ?_
  rintro e w1 ⟨rfl, hb1⟩
  obtain ⟨hc, hf, hl⟩ := bcell hb1
  go_wp2_with fail
  refine wp_region_past (by kernel_rfl) (by kernel_rfl) (fun hG => ?_)
  repeat (go_big_quiet_step ((go_at_call 9; exact Calls.regrown_of (name_2 _))))
  refine wpQuiet_nil ?_
  intro w2 hb2
  clear hG
  go_wp2_with fail
  go_ret
  exact ⟨rfl, on_past (on_alloc hb1 _) hb2⟩

theorem names_3 (w : World) :
    Calls Try.prog 4 #[.int .i64 3] w fun e w' => e = .returned (.bool true) ∧ Below w.heap.size w w' := by
  go_enter Try.func4, Try.ntmps4
  go_wp2_with fail
  refine (anchor_any _).mono ?_
  rintro e w1 ⟨rfl, hb1⟩
  obtain ⟨hc, hf, hl⟩ := bcell hb1
  go_wp2_with fail
  refine wp_region_past (by kernel_rfl) (by kernel_rfl) (fun hG => ?_)
  repeat (go_big_quiet_step ((go_at_call 9; exact Calls.regrown_of (name_3 _))))
  refine wpQuiet_nil ?_
  intro w2 hb2
  clear hG
  go_wp2_with fail
  go_ret
  exact ⟨rfl, on_past (on_alloc hb1 _) hb2⟩

theorem names_4 (w : World) :
    Calls Try.prog 4 #[.int .i64 4] w fun e w' => e = .returned (.bool true) ∧ Below w.heap.size w w' := by
  go_enter Try.func4, Try.ntmps4
  go_wp2_with fail
  refine (anchor_any _).mono ?_
  rintro e w1 ⟨rfl, hb1⟩
  obtain ⟨hc, hf, hl⟩ := bcell hb1
  go_wp2_with fail
  refine wp_region_past (by kernel_rfl) (by kernel_rfl) (fun hG => ?_)
  repeat (go_big_quiet_step ((go_at_call 9; exact Calls.regrown_of (name_4 _))))
  refine wpQuiet_nil ?_
  intro w2 hb2
  clear hG
  go_wp2_with fail
  go_ret
  exact ⟨rfl, on_past (on_alloc hb1 _) hb2⟩

theorem names_walk (m : Int) (w : World) :
    Calls Try.prog 4 #[.int .i64 m] w fun e w' => e = .returned (.bool true) ∧ Below w.heap.size w w' := by
  by_cases h : m < 1 ∨ 4 < m
  · exact names_out m w h
  · by_cases h1 : m = 1
    · subst h1; exact names_1 w
    · by_cases h2 : m = 2
      · subst h2; exact names_2 w
      · by_cases h3 : m = 3
        · subst h3; exact names_3 w
        · obtain rfl : m = 4 := by omega
          exact names_4 w

end Go.Proofs.Ythlokgidkjejhaa
