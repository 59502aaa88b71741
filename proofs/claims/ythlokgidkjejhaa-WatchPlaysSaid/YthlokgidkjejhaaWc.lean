/- The laws' anchor of the package watch. No condition. -/
import Derived.Test.YthlokgidkjejhaaWa
import Derived.Test.YthlokgidkjejhaaQt
namespace Go.Proofs.Ythlokgidkjejhaa
open Go.ChangeShapes Go.WideShapes Go.RowKit Go.Sort

@[go_sem] theorem failed_of (a b c : Value) (w : World) : (Instr.field 25 (.agg #[a, b, c]) 2).run Try.prog w = .ok c w := by kernel_rfl

theorem next1 (w : World) :
    Calls Try.prog 8 #[.agg #[.int .i64 0, .int .i64 0, .bool false], Cfg.val (usualOf 1), .int .i64 0, .bool false, .bool false, .bool false] w fun e w' =>
      e = .returned (.agg #[.int .i64 1, .int .i64 0, .bool false]) ∧ Below w.heap.size w w' :=
  (next_any 0 0 false (usualOf 1) 0 false false false w (by omega) (by omega) (by omega) (by omega) (by decide) (by decide)).mono fun _ _ ⟨he, hb⟩ => ⟨he, hb⟩
theorem next2 (w : World) :
    Calls Try.prog 8 #[.agg #[.int .i64 1, .int .i64 0, .bool false], Cfg.val (usualOf 1), .int .i64 0, .bool false, .bool false, .bool false] w fun e w' =>
      e = .returned (.agg #[.int .i64 2, .int .i64 0, .bool true]) ∧ Below w.heap.size w w' :=
  (next_any 1 0 false (usualOf 1) 0 false false false w (by omega) (by omega) (by omega) (by omega) (by decide) (by decide)).mono fun _ _ ⟨he, hb⟩ => ⟨he, hb⟩

set_option maxHeartbeats 1000000 in
theorem anchor_any (w : World) :
    Calls Try.prog 6 #[] w fun e w' => e = .returned (.bool true) ∧ Below w.heap.size w w' := by
  go_enter Try.func6, Try.ntmps6
  go_wp2_with fail
  refine wp_region_past_tail 3 (by kernel_rfl) (by kernel_rfl) (fun hG => ?_)
  simp only [List.take_succ_cons, List.take_zero, List.drop_succ_cons, List.drop_zero]
  go_big_quiet_step (fail)
  go_big_quiet_step ((go_at_call 11; exact Calls.regrown_of (usual_any _ _)))
  go_big_quiet_step ((go_at_call 8; exact Calls.regrown_of (next1 _)))
  refine wpQuiet_nil ?_
  intro w1 hb
  obtain ⟨hc, hf, hl⟩ := bcell hb
  clear hG
  go_wp2_with fail
  refine wp_region_past (by kernel_rfl) (by kernel_rfl) (fun hG => ?_)
  repeat (go_big_quiet_step (first
    | (go_at_call 11; exact Calls.regrown_of (usual_any _ _))
    | (go_at_call 8; exact Calls.regrown_of (next2 _))))
  refine wpQuiet_nil ?_
  intro w2 hb2
  clear hG
  go_wp2_with fail
  go_ret
  refine ⟨rfl, ?_⟩
  exact on_past (on_set (on_set (on_set (on_past (bself _ _) hb) (Nat.le_refl _) _) (Nat.le_refl _) _) (Nat.le_refl _) _) hb2

end Go.Proofs.Ythlokgidkjejhaa
