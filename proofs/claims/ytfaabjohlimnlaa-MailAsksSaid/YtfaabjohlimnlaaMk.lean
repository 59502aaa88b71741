/- A mail that came in, opened; the walk of the law MailAsks. No condition. -/
import Derived.Test.YtfaabjohlimnlaaMg
import Derived.Test.YtfaabjohlimnlaaLaw
namespace Go.Proofs.Ytfaabjohlimnlaa
open Go.ChangeShapes Go.WideShapes Go.ChangeAt Go.RowKit Go.Deep Go.Joins Go.Sort
set_option linter.unusedVariables false
set_option linter.unusedSimpArgs false

theorem mailTypes : Try.prog.cellTypes Try.prog.depth 55 = some [4, 4, 4, 4, 4, 4, 2, 2, 2, 2, 2, 2, 3, 3, 3, 3] := by kernel_rfl
theorem cell_bool {w : World} {r : Reach} {b0 : Nat} {v : Value} (h : Cell.okWide Try.prog w r b0 4 v) : ∃ b, v = .bool b := by
  simp only [Cell.okWide, Try.underlying4] at h
  cases v <;> simp_all [Cell.ok]
theorem cell_int64 {w : World} {r : Reach} {b0 : Nat} {v : Value} (h : Cell.okWide Try.prog w r b0 2 v) : ∃ b, v = .int .i64 b := by
  simp only [Cell.okWide, Try.underlying2] at h
  cases v <;> simp_all [Cell.ok]
theorem cell_int {w : World} {r : Reach} {b0 : Nat} {v : Value} (h : Cell.okWide Try.prog w r b0 3 v) : ∃ b, v = .int .i64 b := by
  simp only [Cell.okWide, Try.underlying3] at h
  cases v <;> simp_all [Cell.ok]

theorem mail_of {w : World} {r : Reach} {b0 : Nat} {v : Value} (hv : Value.okWide Try.prog w r b0 55 v) : ∃ (H : Nat → Bool) (V : Nat → Int) (b s t y : Int), v = mv H V b s t y := by
  simp only [Value.okWide, Try.underlying55] at hv
  obtain ⟨⟨l⟩, rfl, hsz, ts, hts, _, hc⟩ := hv
  rw [mailTypes] at hts
  cases hts
  have hl : l.length = 16 := by
    have : Try.prog.cellsOf 55 = 16 := by kernel_rfl
    rw [this] at hsz; simpa using hsz
  match l, hl with
  | [a0, a1, a2, a3, a4, a5, a6, a7, a8, a9, a10, a11, a12, a13, a14, a15], _ =>
    obtain ⟨x0, rfl⟩ := cell_bool (by obtain ⟨u, hu, hh⟩ := hc 0 a0 rfl; cases hu; exact hh)
    obtain ⟨x1, rfl⟩ := cell_bool (by obtain ⟨u, hu, hh⟩ := hc 1 a1 rfl; cases hu; exact hh)
    obtain ⟨x2, rfl⟩ := cell_bool (by obtain ⟨u, hu, hh⟩ := hc 2 a2 rfl; cases hu; exact hh)
    obtain ⟨x3, rfl⟩ := cell_bool (by obtain ⟨u, hu, hh⟩ := hc 3 a3 rfl; cases hu; exact hh)
    obtain ⟨x4, rfl⟩ := cell_bool (by obtain ⟨u, hu, hh⟩ := hc 4 a4 rfl; cases hu; exact hh)
    obtain ⟨x5, rfl⟩ := cell_bool (by obtain ⟨u, hu, hh⟩ := hc 5 a5 rfl; cases hu; exact hh)
    obtain ⟨x6, rfl⟩ := cell_int64 (by obtain ⟨u, hu, hh⟩ := hc 6 a6 rfl; cases hu; exact hh)
    obtain ⟨x7, rfl⟩ := cell_int64 (by obtain ⟨u, hu, hh⟩ := hc 7 a7 rfl; cases hu; exact hh)
    obtain ⟨x8, rfl⟩ := cell_int64 (by obtain ⟨u, hu, hh⟩ := hc 8 a8 rfl; cases hu; exact hh)
    obtain ⟨x9, rfl⟩ := cell_int64 (by obtain ⟨u, hu, hh⟩ := hc 9 a9 rfl; cases hu; exact hh)
    obtain ⟨x10, rfl⟩ := cell_int64 (by obtain ⟨u, hu, hh⟩ := hc 10 a10 rfl; cases hu; exact hh)
    obtain ⟨x11, rfl⟩ := cell_int64 (by obtain ⟨u, hu, hh⟩ := hc 11 a11 rfl; cases hu; exact hh)
    obtain ⟨x12, rfl⟩ := cell_int (by obtain ⟨u, hu, hh⟩ := hc 12 a12 rfl; cases hu; exact hh)
    obtain ⟨x13, rfl⟩ := cell_int (by obtain ⟨u, hu, hh⟩ := hc 13 a13 rfl; cases hu; exact hh)
    obtain ⟨x14, rfl⟩ := cell_int (by obtain ⟨u, hu, hh⟩ := hc 14 a14 rfl; cases hu; exact hh)
    obtain ⟨x15, rfl⟩ := cell_int (by obtain ⟨u, hu, hh⟩ := hc 15 a15 rfl; cases hu; exact hh)
    refine ⟨fun i => if i = 0 then x0 else if i = 1 then x1 else if i = 2 then x2 else if i = 3 then x3 else if i = 4 then x4 else x5, fun i => if i = 0 then x6 else if i = 1 then x7 else if i = 2 then x8 else if i = 3 then x9 else if i = 4 then x10 else x11, x12, x13, x14, x15, rfl⟩

/-- a mail's cells, as a list -/
def ml (H : Nat → Bool) (V : Nat → Int) (b s t y : Int) : List Value := [.bool (H 0), .bool (H 1), .bool (H 2), .bool (H 3), .bool (H 4), .bool (H 5), .int .i64 (V 0), .int .i64 (V 1), .int .i64 (V 2), .int .i64 (V 3), .int .i64 (V 4), .int .i64 (V 5), .int .i64 b, .int .i64 s, .int .i64 t, .int .i64 y]

set_option maxRecDepth 100000 in
set_option maxHeartbeats 2000000 in
theorem asks_out0 (H : Nat → Bool) (V : Nat → Int) (b s t y : Int) (k : Int) (w : World) (hk : ¬ (0 ≤ k ∧ k < 6)) (z : (b == 0) = false) :
    Calls Try.prog 13 #[mv H V b s t y, .int .i64 k] w fun e w' => e = .returned (.bool true) ∧ Below w.heap.size w w' := by
  have HOf := Lib.hid (fun w => of_out H V b s t y k w hk)
  have HQ := Lib.hid (fun w => quiet_any H V b s t y w)
  have hv : mv H V b s t y = .agg (ml H V b s t y).toArray := rfl
  rw [hv] at HOf HQ ⊢
  go_enter Try.func13, Try.ntmps13
  go_wp2_with fail
  refine (mailAnchor_any _).mono ?_
  rintro e w1 ⟨rfl, hb1⟩
  have HR := Lib.hid (range_below (range_alloc_new w (ml H V b s t y) 55 _ rfl) (by simp) hb1)
  go_wp2_with (refine wpList_load_mid rfl 55 (.tmp 2) rfl w.heap.size 0 rfl (ml H V b s t y) _ HR.out Try.underlying55 rfl mailSize ?_)
  refine (HOf.out _).mono ?_
  rintro e w2 ⟨rfl, hb2⟩
  have hz1 : w.heap.size < w1.heap.size := by have := hb1.size; simp at this; omega
  have hz2 : w.heap.size < w2.heap.size := by have := hb2.size; omega
  have HR2 := Lib.hid (range_below HR.out hz1 hb2)
  have q0 : w2.cell? ⟨w.heap.size, 0, none⟩ = some (.bool (H 0)) := by simpa using HR2.out 0 (.bool (H 0)) rfl
  have q1 : w2.cell? ⟨w.heap.size, 1, none⟩ = some (.bool (H 1)) := by simpa using HR2.out 1 (.bool (H 1)) rfl
  have q2 : w2.cell? ⟨w.heap.size, 2, none⟩ = some (.bool (H 2)) := by simpa using HR2.out 2 (.bool (H 2)) rfl
  have q3 : w2.cell? ⟨w.heap.size, 3, none⟩ = some (.bool (H 3)) := by simpa using HR2.out 3 (.bool (H 3)) rfl
  have q4 : w2.cell? ⟨w.heap.size, 4, none⟩ = some (.bool (H 4)) := by simpa using HR2.out 4 (.bool (H 4)) rfl
  have q5 : w2.cell? ⟨w.heap.size, 5, none⟩ = some (.bool (H 5)) := by simpa using HR2.out 5 (.bool (H 5)) rfl
  have q6 : w2.cell? ⟨w.heap.size, 6, none⟩ = some (.int .i64 (V 0)) := by simpa using HR2.out 6 (.int .i64 (V 0)) rfl
  have q7 : w2.cell? ⟨w.heap.size, 7, none⟩ = some (.int .i64 (V 1)) := by simpa using HR2.out 7 (.int .i64 (V 1)) rfl
  have q8 : w2.cell? ⟨w.heap.size, 8, none⟩ = some (.int .i64 (V 2)) := by simpa using HR2.out 8 (.int .i64 (V 2)) rfl
  have q9 : w2.cell? ⟨w.heap.size, 9, none⟩ = some (.int .i64 (V 3)) := by simpa using HR2.out 9 (.int .i64 (V 3)) rfl
  have q10 : w2.cell? ⟨w.heap.size, 10, none⟩ = some (.int .i64 (V 4)) := by simpa using HR2.out 10 (.int .i64 (V 4)) rfl
  have q11 : w2.cell? ⟨w.heap.size, 11, none⟩ = some (.int .i64 (V 5)) := by simpa using HR2.out 11 (.int .i64 (V 5)) rfl
  have q12 : w2.cell? ⟨w.heap.size, 12, none⟩ = some (.int .i64 b) := by simpa using HR2.out 12 (.int .i64 b) rfl
  have q13 : w2.cell? ⟨w.heap.size, 13, none⟩ = some (.int .i64 s) := by simpa using HR2.out 13 (.int .i64 s) rfl
  have q14 : w2.cell? ⟨w.heap.size, 14, none⟩ = some (.int .i64 t) := by simpa using HR2.out 14 (.int .i64 t) rfl
  have q15 : w2.cell? ⟨w.heap.size, 15, none⟩ = some (.int .i64 y) := by simpa using HR2.out 15 (.int .i64 y) rfl
  have HB := Lib.hid (on_past (on_past (bself w (.cells (ml H V b s t y).toArray 55)) hb1) hb2)
  replace HQ := Lib.hid (fun w => quiet_any H V b s t y w)
  unfold mv at HQ
  clear hv HR HOf hb1 hb2
  have hk' : k < 0 ∨ 5 < k := by omega
  clear hk
  go_wp2_with fail
  refine wp_region_past (by kernel_rfl) (by kernel_rfl) (fun hG => ?_)
  repeat (go_big_quiet_step ((go_at_call 32; exact Calls.regrown_of (HQ.out _))))
  refine wpQuiet_nil ?_
  intro w3 hb3
  obtain ⟨hc, hf, hl⟩ := bcell hb3; clear hG
  go_wp2_with fail
  all_goals
    go_ret
    exact ⟨by first | rfl | simp, on_past HB.out hb3⟩

set_option maxRecDepth 100000 in
set_option maxHeartbeats 2000000 in
theorem asks_out1 (H : Nat → Bool) (V : Nat → Int) (s t y : Int) (k : Int) (w : World) (hk : ¬ (0 ≤ k ∧ k < 6)) (z : (s == 0) = false) :
    Calls Try.prog 13 #[mv H V 0 s t y, .int .i64 k] w fun e w' => e = .returned (.bool true) ∧ Below w.heap.size w w' := by
  have HOf := Lib.hid (fun w => of_out H V 0 s t y k w hk)
  have HQ := Lib.hid (fun w => quiet_any H V 0 s t y w)
  have hv : mv H V 0 s t y = .agg (ml H V 0 s t y).toArray := rfl
  rw [hv] at HOf HQ ⊢
  go_enter Try.func13, Try.ntmps13
  go_wp2_with fail
  refine (mailAnchor_any _).mono ?_
  rintro e w1 ⟨rfl, hb1⟩
  have HR := Lib.hid (range_below (range_alloc_new w (ml H V 0 s t y) 55 _ rfl) (by simp) hb1)
  go_wp2_with (refine wpList_load_mid rfl 55 (.tmp 2) rfl w.heap.size 0 rfl (ml H V 0 s t y) _ HR.out Try.underlying55 rfl mailSize ?_)
  refine (HOf.out _).mono ?_
  rintro e w2 ⟨rfl, hb2⟩
  have hz1 : w.heap.size < w1.heap.size := by have := hb1.size; simp at this; omega
  have hz2 : w.heap.size < w2.heap.size := by have := hb2.size; omega
  have HR2 := Lib.hid (range_below HR.out hz1 hb2)
  have q0 : w2.cell? ⟨w.heap.size, 0, none⟩ = some (.bool (H 0)) := by simpa using HR2.out 0 (.bool (H 0)) rfl
  have q1 : w2.cell? ⟨w.heap.size, 1, none⟩ = some (.bool (H 1)) := by simpa using HR2.out 1 (.bool (H 1)) rfl
  have q2 : w2.cell? ⟨w.heap.size, 2, none⟩ = some (.bool (H 2)) := by simpa using HR2.out 2 (.bool (H 2)) rfl
  have q3 : w2.cell? ⟨w.heap.size, 3, none⟩ = some (.bool (H 3)) := by simpa using HR2.out 3 (.bool (H 3)) rfl
  have q4 : w2.cell? ⟨w.heap.size, 4, none⟩ = some (.bool (H 4)) := by simpa using HR2.out 4 (.bool (H 4)) rfl
  have q5 : w2.cell? ⟨w.heap.size, 5, none⟩ = some (.bool (H 5)) := by simpa using HR2.out 5 (.bool (H 5)) rfl
  have q6 : w2.cell? ⟨w.heap.size, 6, none⟩ = some (.int .i64 (V 0)) := by simpa using HR2.out 6 (.int .i64 (V 0)) rfl
  have q7 : w2.cell? ⟨w.heap.size, 7, none⟩ = some (.int .i64 (V 1)) := by simpa using HR2.out 7 (.int .i64 (V 1)) rfl
  have q8 : w2.cell? ⟨w.heap.size, 8, none⟩ = some (.int .i64 (V 2)) := by simpa using HR2.out 8 (.int .i64 (V 2)) rfl
  have q9 : w2.cell? ⟨w.heap.size, 9, none⟩ = some (.int .i64 (V 3)) := by simpa using HR2.out 9 (.int .i64 (V 3)) rfl
  have q10 : w2.cell? ⟨w.heap.size, 10, none⟩ = some (.int .i64 (V 4)) := by simpa using HR2.out 10 (.int .i64 (V 4)) rfl
  have q11 : w2.cell? ⟨w.heap.size, 11, none⟩ = some (.int .i64 (V 5)) := by simpa using HR2.out 11 (.int .i64 (V 5)) rfl
  have q12 : w2.cell? ⟨w.heap.size, 12, none⟩ = some (.int .i64 0) := by simpa using HR2.out 12 (.int .i64 0) rfl
  have q13 : w2.cell? ⟨w.heap.size, 13, none⟩ = some (.int .i64 s) := by simpa using HR2.out 13 (.int .i64 s) rfl
  have q14 : w2.cell? ⟨w.heap.size, 14, none⟩ = some (.int .i64 t) := by simpa using HR2.out 14 (.int .i64 t) rfl
  have q15 : w2.cell? ⟨w.heap.size, 15, none⟩ = some (.int .i64 y) := by simpa using HR2.out 15 (.int .i64 y) rfl
  have HB := Lib.hid (on_past (on_past (bself w (.cells (ml H V 0 s t y).toArray 55)) hb1) hb2)
  replace HQ := Lib.hid (fun w => quiet_any H V 0 s t y w)
  unfold mv at HQ
  clear hv HR HOf hb1 hb2
  have hk' : k < 0 ∨ 5 < k := by omega
  clear hk
  go_wp2_with fail
  refine wp_region_past (by kernel_rfl) (by kernel_rfl) (fun hG => ?_)
  repeat (go_big_quiet_step ((go_at_call 32; exact Calls.regrown_of (HQ.out _))))
  refine wpQuiet_nil ?_
  intro w3 hb3
  obtain ⟨hc, hf, hl⟩ := bcell hb3; clear hG
  go_wp2_with fail
  all_goals
    go_ret
    exact ⟨by first | rfl | simp, on_past HB.out hb3⟩

set_option maxRecDepth 100000 in
set_option maxHeartbeats 2000000 in
theorem asks_out2 (H : Nat → Bool) (V : Nat → Int) (t y : Int) (k : Int) (w : World) (hk : ¬ (0 ≤ k ∧ k < 6)) (z : (t == 0) = false) :
    Calls Try.prog 13 #[mv H V 0 0 t y, .int .i64 k] w fun e w' => e = .returned (.bool true) ∧ Below w.heap.size w w' := by
  have HOf := Lib.hid (fun w => of_out H V 0 0 t y k w hk)
  have HQ := Lib.hid (fun w => quiet_any H V 0 0 t y w)
  have hv : mv H V 0 0 t y = .agg (ml H V 0 0 t y).toArray := rfl
  rw [hv] at HOf HQ ⊢
  go_enter Try.func13, Try.ntmps13
  go_wp2_with fail
  refine (mailAnchor_any _).mono ?_
  rintro e w1 ⟨rfl, hb1⟩
  have HR := Lib.hid (range_below (range_alloc_new w (ml H V 0 0 t y) 55 _ rfl) (by simp) hb1)
  go_wp2_with (refine wpList_load_mid rfl 55 (.tmp 2) rfl w.heap.size 0 rfl (ml H V 0 0 t y) _ HR.out Try.underlying55 rfl mailSize ?_)
  refine (HOf.out _).mono ?_
  rintro e w2 ⟨rfl, hb2⟩
  have hz1 : w.heap.size < w1.heap.size := by have := hb1.size; simp at this; omega
  have hz2 : w.heap.size < w2.heap.size := by have := hb2.size; omega
  have HR2 := Lib.hid (range_below HR.out hz1 hb2)
  have q0 : w2.cell? ⟨w.heap.size, 0, none⟩ = some (.bool (H 0)) := by simpa using HR2.out 0 (.bool (H 0)) rfl
  have q1 : w2.cell? ⟨w.heap.size, 1, none⟩ = some (.bool (H 1)) := by simpa using HR2.out 1 (.bool (H 1)) rfl
  have q2 : w2.cell? ⟨w.heap.size, 2, none⟩ = some (.bool (H 2)) := by simpa using HR2.out 2 (.bool (H 2)) rfl
  have q3 : w2.cell? ⟨w.heap.size, 3, none⟩ = some (.bool (H 3)) := by simpa using HR2.out 3 (.bool (H 3)) rfl
  have q4 : w2.cell? ⟨w.heap.size, 4, none⟩ = some (.bool (H 4)) := by simpa using HR2.out 4 (.bool (H 4)) rfl
  have q5 : w2.cell? ⟨w.heap.size, 5, none⟩ = some (.bool (H 5)) := by simpa using HR2.out 5 (.bool (H 5)) rfl
  have q6 : w2.cell? ⟨w.heap.size, 6, none⟩ = some (.int .i64 (V 0)) := by simpa using HR2.out 6 (.int .i64 (V 0)) rfl
  have q7 : w2.cell? ⟨w.heap.size, 7, none⟩ = some (.int .i64 (V 1)) := by simpa using HR2.out 7 (.int .i64 (V 1)) rfl
  have q8 : w2.cell? ⟨w.heap.size, 8, none⟩ = some (.int .i64 (V 2)) := by simpa using HR2.out 8 (.int .i64 (V 2)) rfl
  have q9 : w2.cell? ⟨w.heap.size, 9, none⟩ = some (.int .i64 (V 3)) := by simpa using HR2.out 9 (.int .i64 (V 3)) rfl
  have q10 : w2.cell? ⟨w.heap.size, 10, none⟩ = some (.int .i64 (V 4)) := by simpa using HR2.out 10 (.int .i64 (V 4)) rfl
  have q11 : w2.cell? ⟨w.heap.size, 11, none⟩ = some (.int .i64 (V 5)) := by simpa using HR2.out 11 (.int .i64 (V 5)) rfl
  have q12 : w2.cell? ⟨w.heap.size, 12, none⟩ = some (.int .i64 0) := by simpa using HR2.out 12 (.int .i64 0) rfl
  have q13 : w2.cell? ⟨w.heap.size, 13, none⟩ = some (.int .i64 0) := by simpa using HR2.out 13 (.int .i64 0) rfl
  have q14 : w2.cell? ⟨w.heap.size, 14, none⟩ = some (.int .i64 t) := by simpa using HR2.out 14 (.int .i64 t) rfl
  have q15 : w2.cell? ⟨w.heap.size, 15, none⟩ = some (.int .i64 y) := by simpa using HR2.out 15 (.int .i64 y) rfl
  have HB := Lib.hid (on_past (on_past (bself w (.cells (ml H V 0 0 t y).toArray 55)) hb1) hb2)
  replace HQ := Lib.hid (fun w => quiet_any H V 0 0 t y w)
  unfold mv at HQ
  clear hv HR HOf hb1 hb2
  have hk' : k < 0 ∨ 5 < k := by omega
  clear hk
  go_wp2_with fail
  refine wp_region_past (by kernel_rfl) (by kernel_rfl) (fun hG => ?_)
  repeat (go_big_quiet_step ((go_at_call 32; exact Calls.regrown_of (HQ.out _))))
  refine wpQuiet_nil ?_
  intro w3 hb3
  obtain ⟨hc, hf, hl⟩ := bcell hb3; clear hG
  go_wp2_with fail
  all_goals
    go_ret
    exact ⟨by first | rfl | simp, on_past HB.out hb3⟩

set_option maxRecDepth 100000 in
set_option maxHeartbeats 2000000 in
theorem asks_out3 (H : Nat → Bool) (V : Nat → Int) (y : Int) (k : Int) (w : World) (hk : ¬ (0 ≤ k ∧ k < 6)) (z : (y == 0) = false) :
    Calls Try.prog 13 #[mv H V 0 0 0 y, .int .i64 k] w fun e w' => e = .returned (.bool true) ∧ Below w.heap.size w w' := by
  have HOf := Lib.hid (fun w => of_out H V 0 0 0 y k w hk)
  have HQ := Lib.hid (fun w => quiet_any H V 0 0 0 y w)
  have hv : mv H V 0 0 0 y = .agg (ml H V 0 0 0 y).toArray := rfl
  rw [hv] at HOf HQ ⊢
  go_enter Try.func13, Try.ntmps13
  go_wp2_with fail
  refine (mailAnchor_any _).mono ?_
  rintro e w1 ⟨rfl, hb1⟩
  have HR := Lib.hid (range_below (range_alloc_new w (ml H V 0 0 0 y) 55 _ rfl) (by simp) hb1)
  go_wp2_with (refine wpList_load_mid rfl 55 (.tmp 2) rfl w.heap.size 0 rfl (ml H V 0 0 0 y) _ HR.out Try.underlying55 rfl mailSize ?_)
  refine (HOf.out _).mono ?_
  rintro e w2 ⟨rfl, hb2⟩
  have hz1 : w.heap.size < w1.heap.size := by have := hb1.size; simp at this; omega
  have hz2 : w.heap.size < w2.heap.size := by have := hb2.size; omega
  have HR2 := Lib.hid (range_below HR.out hz1 hb2)
  have q0 : w2.cell? ⟨w.heap.size, 0, none⟩ = some (.bool (H 0)) := by simpa using HR2.out 0 (.bool (H 0)) rfl
  have q1 : w2.cell? ⟨w.heap.size, 1, none⟩ = some (.bool (H 1)) := by simpa using HR2.out 1 (.bool (H 1)) rfl
  have q2 : w2.cell? ⟨w.heap.size, 2, none⟩ = some (.bool (H 2)) := by simpa using HR2.out 2 (.bool (H 2)) rfl
  have q3 : w2.cell? ⟨w.heap.size, 3, none⟩ = some (.bool (H 3)) := by simpa using HR2.out 3 (.bool (H 3)) rfl
  have q4 : w2.cell? ⟨w.heap.size, 4, none⟩ = some (.bool (H 4)) := by simpa using HR2.out 4 (.bool (H 4)) rfl
  have q5 : w2.cell? ⟨w.heap.size, 5, none⟩ = some (.bool (H 5)) := by simpa using HR2.out 5 (.bool (H 5)) rfl
  have q6 : w2.cell? ⟨w.heap.size, 6, none⟩ = some (.int .i64 (V 0)) := by simpa using HR2.out 6 (.int .i64 (V 0)) rfl
  have q7 : w2.cell? ⟨w.heap.size, 7, none⟩ = some (.int .i64 (V 1)) := by simpa using HR2.out 7 (.int .i64 (V 1)) rfl
  have q8 : w2.cell? ⟨w.heap.size, 8, none⟩ = some (.int .i64 (V 2)) := by simpa using HR2.out 8 (.int .i64 (V 2)) rfl
  have q9 : w2.cell? ⟨w.heap.size, 9, none⟩ = some (.int .i64 (V 3)) := by simpa using HR2.out 9 (.int .i64 (V 3)) rfl
  have q10 : w2.cell? ⟨w.heap.size, 10, none⟩ = some (.int .i64 (V 4)) := by simpa using HR2.out 10 (.int .i64 (V 4)) rfl
  have q11 : w2.cell? ⟨w.heap.size, 11, none⟩ = some (.int .i64 (V 5)) := by simpa using HR2.out 11 (.int .i64 (V 5)) rfl
  have q12 : w2.cell? ⟨w.heap.size, 12, none⟩ = some (.int .i64 0) := by simpa using HR2.out 12 (.int .i64 0) rfl
  have q13 : w2.cell? ⟨w.heap.size, 13, none⟩ = some (.int .i64 0) := by simpa using HR2.out 13 (.int .i64 0) rfl
  have q14 : w2.cell? ⟨w.heap.size, 14, none⟩ = some (.int .i64 0) := by simpa using HR2.out 14 (.int .i64 0) rfl
  have q15 : w2.cell? ⟨w.heap.size, 15, none⟩ = some (.int .i64 y) := by simpa using HR2.out 15 (.int .i64 y) rfl
  have HB := Lib.hid (on_past (on_past (bself w (.cells (ml H V 0 0 0 y).toArray 55)) hb1) hb2)
  replace HQ := Lib.hid (fun w => quiet_any H V 0 0 0 y w)
  unfold mv at HQ
  clear hv HR HOf hb1 hb2
  have hk' : k < 0 ∨ 5 < k := by omega
  clear hk
  go_wp2_with fail
  refine wp_region_past (by kernel_rfl) (by kernel_rfl) (fun hG => ?_)
  repeat (go_big_quiet_step ((go_at_call 32; exact Calls.regrown_of (HQ.out _))))
  refine wpQuiet_nil ?_
  intro w3 hb3
  obtain ⟨hc, hf, hl⟩ := bcell hb3; clear hG
  go_wp2_with fail
  all_goals
    go_ret
    exact ⟨by first | rfl | simp, on_past HB.out hb3⟩

set_option maxRecDepth 100000 in
set_option maxHeartbeats 2000000 in
theorem asks_out4 (H : Nat → Bool) (V : Nat → Int) (k : Int) (w : World) (hk : ¬ (0 ≤ k ∧ k < 6)) :
    Calls Try.prog 13 #[mv H V 0 0 0 0, .int .i64 k] w fun e w' => e = .returned (.bool true) ∧ Below w.heap.size w w' := by
  have HOf := Lib.hid (fun w => of_out H V 0 0 0 0 k w hk)
  have HQ := Lib.hid (fun w => quiet_any H V 0 0 0 0 w)
  have hv : mv H V 0 0 0 0 = .agg (ml H V 0 0 0 0).toArray := rfl
  rw [hv] at HOf HQ ⊢
  go_enter Try.func13, Try.ntmps13
  go_wp2_with fail
  refine (mailAnchor_any _).mono ?_
  rintro e w1 ⟨rfl, hb1⟩
  have HR := Lib.hid (range_below (range_alloc_new w (ml H V 0 0 0 0) 55 _ rfl) (by simp) hb1)
  go_wp2_with (refine wpList_load_mid rfl 55 (.tmp 2) rfl w.heap.size 0 rfl (ml H V 0 0 0 0) _ HR.out Try.underlying55 rfl mailSize ?_)
  refine (HOf.out _).mono ?_
  rintro e w2 ⟨rfl, hb2⟩
  have hz1 : w.heap.size < w1.heap.size := by have := hb1.size; simp at this; omega
  have hz2 : w.heap.size < w2.heap.size := by have := hb2.size; omega
  have HR2 := Lib.hid (range_below HR.out hz1 hb2)
  have q0 : w2.cell? ⟨w.heap.size, 0, none⟩ = some (.bool (H 0)) := by simpa using HR2.out 0 (.bool (H 0)) rfl
  have q1 : w2.cell? ⟨w.heap.size, 1, none⟩ = some (.bool (H 1)) := by simpa using HR2.out 1 (.bool (H 1)) rfl
  have q2 : w2.cell? ⟨w.heap.size, 2, none⟩ = some (.bool (H 2)) := by simpa using HR2.out 2 (.bool (H 2)) rfl
  have q3 : w2.cell? ⟨w.heap.size, 3, none⟩ = some (.bool (H 3)) := by simpa using HR2.out 3 (.bool (H 3)) rfl
  have q4 : w2.cell? ⟨w.heap.size, 4, none⟩ = some (.bool (H 4)) := by simpa using HR2.out 4 (.bool (H 4)) rfl
  have q5 : w2.cell? ⟨w.heap.size, 5, none⟩ = some (.bool (H 5)) := by simpa using HR2.out 5 (.bool (H 5)) rfl
  have q6 : w2.cell? ⟨w.heap.size, 6, none⟩ = some (.int .i64 (V 0)) := by simpa using HR2.out 6 (.int .i64 (V 0)) rfl
  have q7 : w2.cell? ⟨w.heap.size, 7, none⟩ = some (.int .i64 (V 1)) := by simpa using HR2.out 7 (.int .i64 (V 1)) rfl
  have q8 : w2.cell? ⟨w.heap.size, 8, none⟩ = some (.int .i64 (V 2)) := by simpa using HR2.out 8 (.int .i64 (V 2)) rfl
  have q9 : w2.cell? ⟨w.heap.size, 9, none⟩ = some (.int .i64 (V 3)) := by simpa using HR2.out 9 (.int .i64 (V 3)) rfl
  have q10 : w2.cell? ⟨w.heap.size, 10, none⟩ = some (.int .i64 (V 4)) := by simpa using HR2.out 10 (.int .i64 (V 4)) rfl
  have q11 : w2.cell? ⟨w.heap.size, 11, none⟩ = some (.int .i64 (V 5)) := by simpa using HR2.out 11 (.int .i64 (V 5)) rfl
  have q12 : w2.cell? ⟨w.heap.size, 12, none⟩ = some (.int .i64 0) := by simpa using HR2.out 12 (.int .i64 0) rfl
  have q13 : w2.cell? ⟨w.heap.size, 13, none⟩ = some (.int .i64 0) := by simpa using HR2.out 13 (.int .i64 0) rfl
  have q14 : w2.cell? ⟨w.heap.size, 14, none⟩ = some (.int .i64 0) := by simpa using HR2.out 14 (.int .i64 0) rfl
  have q15 : w2.cell? ⟨w.heap.size, 15, none⟩ = some (.int .i64 0) := by simpa using HR2.out 15 (.int .i64 0) rfl
  have HB := Lib.hid (on_past (on_past (bself w (.cells (ml H V 0 0 0 0).toArray 55)) hb1) hb2)
  replace HQ := Lib.hid (fun w => quiet_any H V 0 0 0 0 w)
  unfold mv at HQ
  clear hv HR HOf hb1 hb2
  have hk' : k < 0 ∨ 5 < k := by omega
  clear hk
  go_wp2_with fail
  refine wp_region_past (by kernel_rfl) (by kernel_rfl) (fun hG => ?_)
  repeat (go_big_quiet_step ((go_at_call 32; exact Calls.regrown_of (HQ.out _))))
  refine wpQuiet_nil ?_
  intro w3 hb3
  obtain ⟨hc, hf, hl⟩ := bcell hb3; clear hG
  go_wp2_with fail
  all_goals
    go_ret
    exact ⟨by first | rfl | simp, on_past HB.out hb3⟩

set_option maxRecDepth 100000 in
set_option maxHeartbeats 2000000 in
theorem asks_in0 (H : Nat → Bool) (V : Nat → Int) (b s t y : Int) (k : Nat) (w : World) (hk : k < 6) (z : (b == 0) = false) :
    Calls Try.prog 13 #[mv H V b s t y, .int .i64 k] w fun e w' => e = .returned (.bool true) ∧ Below w.heap.size w w' := by
  have HOf := Lib.hid (fun w => of_in H V b s t y k w hk)
  have HQ := Lib.hid (fun w => quiet_any H V b s t y w)
  have hv : mv H V b s t y = .agg (ml H V b s t y).toArray := rfl
  rw [hv] at HOf HQ ⊢
  go_enter Try.func13, Try.ntmps13
  go_wp2_with fail
  refine (mailAnchor_any _).mono ?_
  rintro e w1 ⟨rfl, hb1⟩
  have HR := Lib.hid (range_below (range_alloc_new w (ml H V b s t y) 55 _ rfl) (by simp) hb1)
  go_wp2_with (refine wpList_load_mid rfl 55 (.tmp 2) rfl w.heap.size 0 rfl (ml H V b s t y) _ HR.out Try.underlying55 rfl mailSize ?_)
  refine (HOf.out _).mono ?_
  rintro e w2 ⟨rfl, hb2⟩
  have hz1 : w.heap.size < w1.heap.size := by have := hb1.size; simp at this; omega
  have hz2 : w.heap.size < w2.heap.size := by have := hb2.size; omega
  have HR2 := Lib.hid (range_below HR.out hz1 hb2)
  have q0 : w2.cell? ⟨w.heap.size, 0, none⟩ = some (.bool (H 0)) := by simpa using HR2.out 0 (.bool (H 0)) rfl
  have q1 : w2.cell? ⟨w.heap.size, 1, none⟩ = some (.bool (H 1)) := by simpa using HR2.out 1 (.bool (H 1)) rfl
  have q2 : w2.cell? ⟨w.heap.size, 2, none⟩ = some (.bool (H 2)) := by simpa using HR2.out 2 (.bool (H 2)) rfl
  have q3 : w2.cell? ⟨w.heap.size, 3, none⟩ = some (.bool (H 3)) := by simpa using HR2.out 3 (.bool (H 3)) rfl
  have q4 : w2.cell? ⟨w.heap.size, 4, none⟩ = some (.bool (H 4)) := by simpa using HR2.out 4 (.bool (H 4)) rfl
  have q5 : w2.cell? ⟨w.heap.size, 5, none⟩ = some (.bool (H 5)) := by simpa using HR2.out 5 (.bool (H 5)) rfl
  have q6 : w2.cell? ⟨w.heap.size, 6, none⟩ = some (.int .i64 (V 0)) := by simpa using HR2.out 6 (.int .i64 (V 0)) rfl
  have q7 : w2.cell? ⟨w.heap.size, 7, none⟩ = some (.int .i64 (V 1)) := by simpa using HR2.out 7 (.int .i64 (V 1)) rfl
  have q8 : w2.cell? ⟨w.heap.size, 8, none⟩ = some (.int .i64 (V 2)) := by simpa using HR2.out 8 (.int .i64 (V 2)) rfl
  have q9 : w2.cell? ⟨w.heap.size, 9, none⟩ = some (.int .i64 (V 3)) := by simpa using HR2.out 9 (.int .i64 (V 3)) rfl
  have q10 : w2.cell? ⟨w.heap.size, 10, none⟩ = some (.int .i64 (V 4)) := by simpa using HR2.out 10 (.int .i64 (V 4)) rfl
  have q11 : w2.cell? ⟨w.heap.size, 11, none⟩ = some (.int .i64 (V 5)) := by simpa using HR2.out 11 (.int .i64 (V 5)) rfl
  have q12 : w2.cell? ⟨w.heap.size, 12, none⟩ = some (.int .i64 b) := by simpa using HR2.out 12 (.int .i64 b) rfl
  have q13 : w2.cell? ⟨w.heap.size, 13, none⟩ = some (.int .i64 s) := by simpa using HR2.out 13 (.int .i64 s) rfl
  have q14 : w2.cell? ⟨w.heap.size, 14, none⟩ = some (.int .i64 t) := by simpa using HR2.out 14 (.int .i64 t) rfl
  have q15 : w2.cell? ⟨w.heap.size, 15, none⟩ = some (.int .i64 y) := by simpa using HR2.out 15 (.int .i64 y) rfl
  have HB := Lib.hid (on_past (on_past (bself w (.cells (ml H V b s t y).toArray 55)) hb1) hb2)
  replace HQ := Lib.hid (fun w => quiet_any H V b s t y w)
  unfold mv at HQ
  clear hv HR HOf hb1 hb2
  have hk0 : (0 : Int) ≤ (k : Int) := by omega
  have hk6 : (k : Int) < 6 := by omega
  have qh : w2.cell? ⟨w.heap.size, k, none⟩ = some (.bool (H k)) := by
    have : k = 0 ∨ k = 1 ∨ k = 2 ∨ k = 3 ∨ k = 4 ∨ k = 5 := by omega
    rcases this with rfl | rfl | rfl | rfl | rfl | rfl <;> assumption
  have qv : w2.cell? ⟨w.heap.size, 6 + k, none⟩ = some (.int .i64 (V k)) := by
    have : k = 0 ∨ k = 1 ∨ k = 2 ∨ k = 3 ∨ k = 4 ∨ k = 5 := by omega
    rcases this with rfl | rfl | rfl | rfl | rfl | rfl <;> assumption
  clear hk
  go_wp2_with fail
  refine wp_region_past (by kernel_rfl) (by kernel_rfl) (fun hG => ?_)
  repeat (go_big_quiet_step ((go_at_call 32; exact Calls.regrown_of (HQ.out _))))
  refine wpQuiet_nil ?_
  intro w3 hb3
  obtain ⟨hc, hf, hl⟩ := bcell hb3; clear hG
  go_wp2_with fail
  all_goals
    go_ret
    exact ⟨by first | rfl | simp, on_past HB.out hb3⟩

set_option maxRecDepth 100000 in
set_option maxHeartbeats 2000000 in
theorem asks_in1 (H : Nat → Bool) (V : Nat → Int) (s t y : Int) (k : Nat) (w : World) (hk : k < 6) (z : (s == 0) = false) :
    Calls Try.prog 13 #[mv H V 0 s t y, .int .i64 k] w fun e w' => e = .returned (.bool true) ∧ Below w.heap.size w w' := by
  have HOf := Lib.hid (fun w => of_in H V 0 s t y k w hk)
  have HQ := Lib.hid (fun w => quiet_any H V 0 s t y w)
  have hv : mv H V 0 s t y = .agg (ml H V 0 s t y).toArray := rfl
  rw [hv] at HOf HQ ⊢
  go_enter Try.func13, Try.ntmps13
  go_wp2_with fail
  refine (mailAnchor_any _).mono ?_
  rintro e w1 ⟨rfl, hb1⟩
  have HR := Lib.hid (range_below (range_alloc_new w (ml H V 0 s t y) 55 _ rfl) (by simp) hb1)
  go_wp2_with (refine wpList_load_mid rfl 55 (.tmp 2) rfl w.heap.size 0 rfl (ml H V 0 s t y) _ HR.out Try.underlying55 rfl mailSize ?_)
  refine (HOf.out _).mono ?_
  rintro e w2 ⟨rfl, hb2⟩
  have hz1 : w.heap.size < w1.heap.size := by have := hb1.size; simp at this; omega
  have hz2 : w.heap.size < w2.heap.size := by have := hb2.size; omega
  have HR2 := Lib.hid (range_below HR.out hz1 hb2)
  have q0 : w2.cell? ⟨w.heap.size, 0, none⟩ = some (.bool (H 0)) := by simpa using HR2.out 0 (.bool (H 0)) rfl
  have q1 : w2.cell? ⟨w.heap.size, 1, none⟩ = some (.bool (H 1)) := by simpa using HR2.out 1 (.bool (H 1)) rfl
  have q2 : w2.cell? ⟨w.heap.size, 2, none⟩ = some (.bool (H 2)) := by simpa using HR2.out 2 (.bool (H 2)) rfl
  have q3 : w2.cell? ⟨w.heap.size, 3, none⟩ = some (.bool (H 3)) := by simpa using HR2.out 3 (.bool (H 3)) rfl
  have q4 : w2.cell? ⟨w.heap.size, 4, none⟩ = some (.bool (H 4)) := by simpa using HR2.out 4 (.bool (H 4)) rfl
  have q5 : w2.cell? ⟨w.heap.size, 5, none⟩ = some (.bool (H 5)) := by simpa using HR2.out 5 (.bool (H 5)) rfl
  have q6 : w2.cell? ⟨w.heap.size, 6, none⟩ = some (.int .i64 (V 0)) := by simpa using HR2.out 6 (.int .i64 (V 0)) rfl
  have q7 : w2.cell? ⟨w.heap.size, 7, none⟩ = some (.int .i64 (V 1)) := by simpa using HR2.out 7 (.int .i64 (V 1)) rfl
  have q8 : w2.cell? ⟨w.heap.size, 8, none⟩ = some (.int .i64 (V 2)) := by simpa using HR2.out 8 (.int .i64 (V 2)) rfl
  have q9 : w2.cell? ⟨w.heap.size, 9, none⟩ = some (.int .i64 (V 3)) := by simpa using HR2.out 9 (.int .i64 (V 3)) rfl
  have q10 : w2.cell? ⟨w.heap.size, 10, none⟩ = some (.int .i64 (V 4)) := by simpa using HR2.out 10 (.int .i64 (V 4)) rfl
  have q11 : w2.cell? ⟨w.heap.size, 11, none⟩ = some (.int .i64 (V 5)) := by simpa using HR2.out 11 (.int .i64 (V 5)) rfl
  have q12 : w2.cell? ⟨w.heap.size, 12, none⟩ = some (.int .i64 0) := by simpa using HR2.out 12 (.int .i64 0) rfl
  have q13 : w2.cell? ⟨w.heap.size, 13, none⟩ = some (.int .i64 s) := by simpa using HR2.out 13 (.int .i64 s) rfl
  have q14 : w2.cell? ⟨w.heap.size, 14, none⟩ = some (.int .i64 t) := by simpa using HR2.out 14 (.int .i64 t) rfl
  have q15 : w2.cell? ⟨w.heap.size, 15, none⟩ = some (.int .i64 y) := by simpa using HR2.out 15 (.int .i64 y) rfl
  have HB := Lib.hid (on_past (on_past (bself w (.cells (ml H V 0 s t y).toArray 55)) hb1) hb2)
  replace HQ := Lib.hid (fun w => quiet_any H V 0 s t y w)
  unfold mv at HQ
  clear hv HR HOf hb1 hb2
  have hk0 : (0 : Int) ≤ (k : Int) := by omega
  have hk6 : (k : Int) < 6 := by omega
  have qh : w2.cell? ⟨w.heap.size, k, none⟩ = some (.bool (H k)) := by
    have : k = 0 ∨ k = 1 ∨ k = 2 ∨ k = 3 ∨ k = 4 ∨ k = 5 := by omega
    rcases this with rfl | rfl | rfl | rfl | rfl | rfl <;> assumption
  have qv : w2.cell? ⟨w.heap.size, 6 + k, none⟩ = some (.int .i64 (V k)) := by
    have : k = 0 ∨ k = 1 ∨ k = 2 ∨ k = 3 ∨ k = 4 ∨ k = 5 := by omega
    rcases this with rfl | rfl | rfl | rfl | rfl | rfl <;> assumption
  clear hk
  go_wp2_with fail
  refine wp_region_past (by kernel_rfl) (by kernel_rfl) (fun hG => ?_)
  repeat (go_big_quiet_step ((go_at_call 32; exact Calls.regrown_of (HQ.out _))))
  refine wpQuiet_nil ?_
  intro w3 hb3
  obtain ⟨hc, hf, hl⟩ := bcell hb3; clear hG
  go_wp2_with fail
  all_goals
    go_ret
    exact ⟨by first | rfl | simp, on_past HB.out hb3⟩

set_option maxRecDepth 100000 in
set_option maxHeartbeats 2000000 in
theorem asks_in2 (H : Nat → Bool) (V : Nat → Int) (t y : Int) (k : Nat) (w : World) (hk : k < 6) (z : (t == 0) = false) :
    Calls Try.prog 13 #[mv H V 0 0 t y, .int .i64 k] w fun e w' => e = .returned (.bool true) ∧ Below w.heap.size w w' := by
  have HOf := Lib.hid (fun w => of_in H V 0 0 t y k w hk)
  have HQ := Lib.hid (fun w => quiet_any H V 0 0 t y w)
  have hv : mv H V 0 0 t y = .agg (ml H V 0 0 t y).toArray := rfl
  rw [hv] at HOf HQ ⊢
  go_enter Try.func13, Try.ntmps13
  go_wp2_with fail
  refine (mailAnchor_any _).mono ?_
  rintro e w1 ⟨rfl, hb1⟩
  have HR := Lib.hid (range_below (range_alloc_new w (ml H V 0 0 t y) 55 _ rfl) (by simp) hb1)
  go_wp2_with (refine wpList_load_mid rfl 55 (.tmp 2) rfl w.heap.size 0 rfl (ml H V 0 0 t y) _ HR.out Try.underlying55 rfl mailSize ?_)
  refine (HOf.out _).mono ?_
  rintro e w2 ⟨rfl, hb2⟩
  have hz1 : w.heap.size < w1.heap.size := by have := hb1.size; simp at this; omega
  have hz2 : w.heap.size < w2.heap.size := by have := hb2.size; omega
  have HR2 := Lib.hid (range_below HR.out hz1 hb2)
  have q0 : w2.cell? ⟨w.heap.size, 0, none⟩ = some (.bool (H 0)) := by simpa using HR2.out 0 (.bool (H 0)) rfl
  have q1 : w2.cell? ⟨w.heap.size, 1, none⟩ = some (.bool (H 1)) := by simpa using HR2.out 1 (.bool (H 1)) rfl
  have q2 : w2.cell? ⟨w.heap.size, 2, none⟩ = some (.bool (H 2)) := by simpa using HR2.out 2 (.bool (H 2)) rfl
  have q3 : w2.cell? ⟨w.heap.size, 3, none⟩ = some (.bool (H 3)) := by simpa using HR2.out 3 (.bool (H 3)) rfl
  have q4 : w2.cell? ⟨w.heap.size, 4, none⟩ = some (.bool (H 4)) := by simpa using HR2.out 4 (.bool (H 4)) rfl
  have q5 : w2.cell? ⟨w.heap.size, 5, none⟩ = some (.bool (H 5)) := by simpa using HR2.out 5 (.bool (H 5)) rfl
  have q6 : w2.cell? ⟨w.heap.size, 6, none⟩ = some (.int .i64 (V 0)) := by simpa using HR2.out 6 (.int .i64 (V 0)) rfl
  have q7 : w2.cell? ⟨w.heap.size, 7, none⟩ = some (.int .i64 (V 1)) := by simpa using HR2.out 7 (.int .i64 (V 1)) rfl
  have q8 : w2.cell? ⟨w.heap.size, 8, none⟩ = some (.int .i64 (V 2)) := by simpa using HR2.out 8 (.int .i64 (V 2)) rfl
  have q9 : w2.cell? ⟨w.heap.size, 9, none⟩ = some (.int .i64 (V 3)) := by simpa using HR2.out 9 (.int .i64 (V 3)) rfl
  have q10 : w2.cell? ⟨w.heap.size, 10, none⟩ = some (.int .i64 (V 4)) := by simpa using HR2.out 10 (.int .i64 (V 4)) rfl
  have q11 : w2.cell? ⟨w.heap.size, 11, none⟩ = some (.int .i64 (V 5)) := by simpa using HR2.out 11 (.int .i64 (V 5)) rfl
  have q12 : w2.cell? ⟨w.heap.size, 12, none⟩ = some (.int .i64 0) := by simpa using HR2.out 12 (.int .i64 0) rfl
  have q13 : w2.cell? ⟨w.heap.size, 13, none⟩ = some (.int .i64 0) := by simpa using HR2.out 13 (.int .i64 0) rfl
  have q14 : w2.cell? ⟨w.heap.size, 14, none⟩ = some (.int .i64 t) := by simpa using HR2.out 14 (.int .i64 t) rfl
  have q15 : w2.cell? ⟨w.heap.size, 15, none⟩ = some (.int .i64 y) := by simpa using HR2.out 15 (.int .i64 y) rfl
  have HB := Lib.hid (on_past (on_past (bself w (.cells (ml H V 0 0 t y).toArray 55)) hb1) hb2)
  replace HQ := Lib.hid (fun w => quiet_any H V 0 0 t y w)
  unfold mv at HQ
  clear hv HR HOf hb1 hb2
  have hk0 : (0 : Int) ≤ (k : Int) := by omega
  have hk6 : (k : Int) < 6 := by omega
  have qh : w2.cell? ⟨w.heap.size, k, none⟩ = some (.bool (H k)) := by
    have : k = 0 ∨ k = 1 ∨ k = 2 ∨ k = 3 ∨ k = 4 ∨ k = 5 := by omega
    rcases this with rfl | rfl | rfl | rfl | rfl | rfl <;> assumption
  have qv : w2.cell? ⟨w.heap.size, 6 + k, none⟩ = some (.int .i64 (V k)) := by
    have : k = 0 ∨ k = 1 ∨ k = 2 ∨ k = 3 ∨ k = 4 ∨ k = 5 := by omega
    rcases this with rfl | rfl | rfl | rfl | rfl | rfl <;> assumption
  clear hk
  go_wp2_with fail
  refine wp_region_past (by kernel_rfl) (by kernel_rfl) (fun hG => ?_)
  repeat (go_big_quiet_step ((go_at_call 32; exact Calls.regrown_of (HQ.out _))))
  refine wpQuiet_nil ?_
  intro w3 hb3
  obtain ⟨hc, hf, hl⟩ := bcell hb3; clear hG
  go_wp2_with fail
  all_goals
    go_ret
    exact ⟨by first | rfl | simp, on_past HB.out hb3⟩

set_option maxRecDepth 100000 in
set_option maxHeartbeats 2000000 in
theorem asks_in3 (H : Nat → Bool) (V : Nat → Int) (y : Int) (k : Nat) (w : World) (hk : k < 6) (z : (y == 0) = false) :
    Calls Try.prog 13 #[mv H V 0 0 0 y, .int .i64 k] w fun e w' => e = .returned (.bool true) ∧ Below w.heap.size w w' := by
  have HOf := Lib.hid (fun w => of_in H V 0 0 0 y k w hk)
  have HQ := Lib.hid (fun w => quiet_any H V 0 0 0 y w)
  have hv : mv H V 0 0 0 y = .agg (ml H V 0 0 0 y).toArray := rfl
  rw [hv] at HOf HQ ⊢
  go_enter Try.func13, Try.ntmps13
  go_wp2_with fail
  refine (mailAnchor_any _).mono ?_
  rintro e w1 ⟨rfl, hb1⟩
  have HR := Lib.hid (range_below (range_alloc_new w (ml H V 0 0 0 y) 55 _ rfl) (by simp) hb1)
  go_wp2_with (refine wpList_load_mid rfl 55 (.tmp 2) rfl w.heap.size 0 rfl (ml H V 0 0 0 y) _ HR.out Try.underlying55 rfl mailSize ?_)
  refine (HOf.out _).mono ?_
  rintro e w2 ⟨rfl, hb2⟩
  have hz1 : w.heap.size < w1.heap.size := by have := hb1.size; simp at this; omega
  have hz2 : w.heap.size < w2.heap.size := by have := hb2.size; omega
  have HR2 := Lib.hid (range_below HR.out hz1 hb2)
  have q0 : w2.cell? ⟨w.heap.size, 0, none⟩ = some (.bool (H 0)) := by simpa using HR2.out 0 (.bool (H 0)) rfl
  have q1 : w2.cell? ⟨w.heap.size, 1, none⟩ = some (.bool (H 1)) := by simpa using HR2.out 1 (.bool (H 1)) rfl
  have q2 : w2.cell? ⟨w.heap.size, 2, none⟩ = some (.bool (H 2)) := by simpa using HR2.out 2 (.bool (H 2)) rfl
  have q3 : w2.cell? ⟨w.heap.size, 3, none⟩ = some (.bool (H 3)) := by simpa using HR2.out 3 (.bool (H 3)) rfl
  have q4 : w2.cell? ⟨w.heap.size, 4, none⟩ = some (.bool (H 4)) := by simpa using HR2.out 4 (.bool (H 4)) rfl
  have q5 : w2.cell? ⟨w.heap.size, 5, none⟩ = some (.bool (H 5)) := by simpa using HR2.out 5 (.bool (H 5)) rfl
  have q6 : w2.cell? ⟨w.heap.size, 6, none⟩ = some (.int .i64 (V 0)) := by simpa using HR2.out 6 (.int .i64 (V 0)) rfl
  have q7 : w2.cell? ⟨w.heap.size, 7, none⟩ = some (.int .i64 (V 1)) := by simpa using HR2.out 7 (.int .i64 (V 1)) rfl
  have q8 : w2.cell? ⟨w.heap.size, 8, none⟩ = some (.int .i64 (V 2)) := by simpa using HR2.out 8 (.int .i64 (V 2)) rfl
  have q9 : w2.cell? ⟨w.heap.size, 9, none⟩ = some (.int .i64 (V 3)) := by simpa using HR2.out 9 (.int .i64 (V 3)) rfl
  have q10 : w2.cell? ⟨w.heap.size, 10, none⟩ = some (.int .i64 (V 4)) := by simpa using HR2.out 10 (.int .i64 (V 4)) rfl
  have q11 : w2.cell? ⟨w.heap.size, 11, none⟩ = some (.int .i64 (V 5)) := by simpa using HR2.out 11 (.int .i64 (V 5)) rfl
  have q12 : w2.cell? ⟨w.heap.size, 12, none⟩ = some (.int .i64 0) := by simpa using HR2.out 12 (.int .i64 0) rfl
  have q13 : w2.cell? ⟨w.heap.size, 13, none⟩ = some (.int .i64 0) := by simpa using HR2.out 13 (.int .i64 0) rfl
  have q14 : w2.cell? ⟨w.heap.size, 14, none⟩ = some (.int .i64 0) := by simpa using HR2.out 14 (.int .i64 0) rfl
  have q15 : w2.cell? ⟨w.heap.size, 15, none⟩ = some (.int .i64 y) := by simpa using HR2.out 15 (.int .i64 y) rfl
  have HB := Lib.hid (on_past (on_past (bself w (.cells (ml H V 0 0 0 y).toArray 55)) hb1) hb2)
  replace HQ := Lib.hid (fun w => quiet_any H V 0 0 0 y w)
  unfold mv at HQ
  clear hv HR HOf hb1 hb2
  have hk0 : (0 : Int) ≤ (k : Int) := by omega
  have hk6 : (k : Int) < 6 := by omega
  have qh : w2.cell? ⟨w.heap.size, k, none⟩ = some (.bool (H k)) := by
    have : k = 0 ∨ k = 1 ∨ k = 2 ∨ k = 3 ∨ k = 4 ∨ k = 5 := by omega
    rcases this with rfl | rfl | rfl | rfl | rfl | rfl <;> assumption
  have qv : w2.cell? ⟨w.heap.size, 6 + k, none⟩ = some (.int .i64 (V k)) := by
    have : k = 0 ∨ k = 1 ∨ k = 2 ∨ k = 3 ∨ k = 4 ∨ k = 5 := by omega
    rcases this with rfl | rfl | rfl | rfl | rfl | rfl <;> assumption
  clear hk
  go_wp2_with fail
  refine wp_region_past (by kernel_rfl) (by kernel_rfl) (fun hG => ?_)
  repeat (go_big_quiet_step ((go_at_call 32; exact Calls.regrown_of (HQ.out _))))
  refine wpQuiet_nil ?_
  intro w3 hb3
  obtain ⟨hc, hf, hl⟩ := bcell hb3; clear hG
  go_wp2_with fail
  all_goals
    go_ret
    exact ⟨by first | rfl | simp, on_past HB.out hb3⟩

set_option maxRecDepth 100000 in
set_option maxHeartbeats 2000000 in
theorem asks_in4 (H : Nat → Bool) (V : Nat → Int) (k : Nat) (w : World) (hk : k < 6) :
    Calls Try.prog 13 #[mv H V 0 0 0 0, .int .i64 k] w fun e w' => e = .returned (.bool true) ∧ Below w.heap.size w w' := by
  have HOf := Lib.hid (fun w => of_in H V 0 0 0 0 k w hk)
  have HQ := Lib.hid (fun w => quiet_any H V 0 0 0 0 w)
  have hv : mv H V 0 0 0 0 = .agg (ml H V 0 0 0 0).toArray := rfl
  rw [hv] at HOf HQ ⊢
  go_enter Try.func13, Try.ntmps13
  go_wp2_with fail
  refine (mailAnchor_any _).mono ?_
  rintro e w1 ⟨rfl, hb1⟩
  have HR := Lib.hid (range_below (range_alloc_new w (ml H V 0 0 0 0) 55 _ rfl) (by simp) hb1)
  go_wp2_with (refine wpList_load_mid rfl 55 (.tmp 2) rfl w.heap.size 0 rfl (ml H V 0 0 0 0) _ HR.out Try.underlying55 rfl mailSize ?_)
  refine (HOf.out _).mono ?_
  rintro e w2 ⟨rfl, hb2⟩
  have hz1 : w.heap.size < w1.heap.size := by have := hb1.size; simp at this; omega
  have hz2 : w.heap.size < w2.heap.size := by have := hb2.size; omega
  have HR2 := Lib.hid (range_below HR.out hz1 hb2)
  have q0 : w2.cell? ⟨w.heap.size, 0, none⟩ = some (.bool (H 0)) := by simpa using HR2.out 0 (.bool (H 0)) rfl
  have q1 : w2.cell? ⟨w.heap.size, 1, none⟩ = some (.bool (H 1)) := by simpa using HR2.out 1 (.bool (H 1)) rfl
  have q2 : w2.cell? ⟨w.heap.size, 2, none⟩ = some (.bool (H 2)) := by simpa using HR2.out 2 (.bool (H 2)) rfl
  have q3 : w2.cell? ⟨w.heap.size, 3, none⟩ = some (.bool (H 3)) := by simpa using HR2.out 3 (.bool (H 3)) rfl
  have q4 : w2.cell? ⟨w.heap.size, 4, none⟩ = some (.bool (H 4)) := by simpa using HR2.out 4 (.bool (H 4)) rfl
  have q5 : w2.cell? ⟨w.heap.size, 5, none⟩ = some (.bool (H 5)) := by simpa using HR2.out 5 (.bool (H 5)) rfl
  have q6 : w2.cell? ⟨w.heap.size, 6, none⟩ = some (.int .i64 (V 0)) := by simpa using HR2.out 6 (.int .i64 (V 0)) rfl
  have q7 : w2.cell? ⟨w.heap.size, 7, none⟩ = some (.int .i64 (V 1)) := by simpa using HR2.out 7 (.int .i64 (V 1)) rfl
  have q8 : w2.cell? ⟨w.heap.size, 8, none⟩ = some (.int .i64 (V 2)) := by simpa using HR2.out 8 (.int .i64 (V 2)) rfl
  have q9 : w2.cell? ⟨w.heap.size, 9, none⟩ = some (.int .i64 (V 3)) := by simpa using HR2.out 9 (.int .i64 (V 3)) rfl
  have q10 : w2.cell? ⟨w.heap.size, 10, none⟩ = some (.int .i64 (V 4)) := by simpa using HR2.out 10 (.int .i64 (V 4)) rfl
  have q11 : w2.cell? ⟨w.heap.size, 11, none⟩ = some (.int .i64 (V 5)) := by simpa using HR2.out 11 (.int .i64 (V 5)) rfl
  have q12 : w2.cell? ⟨w.heap.size, 12, none⟩ = some (.int .i64 0) := by simpa using HR2.out 12 (.int .i64 0) rfl
  have q13 : w2.cell? ⟨w.heap.size, 13, none⟩ = some (.int .i64 0) := by simpa using HR2.out 13 (.int .i64 0) rfl
  have q14 : w2.cell? ⟨w.heap.size, 14, none⟩ = some (.int .i64 0) := by simpa using HR2.out 14 (.int .i64 0) rfl
  have q15 : w2.cell? ⟨w.heap.size, 15, none⟩ = some (.int .i64 0) := by simpa using HR2.out 15 (.int .i64 0) rfl
  have HB := Lib.hid (on_past (on_past (bself w (.cells (ml H V 0 0 0 0).toArray 55)) hb1) hb2)
  replace HQ := Lib.hid (fun w => quiet_any H V 0 0 0 0 w)
  unfold mv at HQ
  clear hv HR HOf hb1 hb2
  have hk0 : (0 : Int) ≤ (k : Int) := by omega
  have hk6 : (k : Int) < 6 := by omega
  have qh : w2.cell? ⟨w.heap.size, k, none⟩ = some (.bool (H k)) := by
    have : k = 0 ∨ k = 1 ∨ k = 2 ∨ k = 3 ∨ k = 4 ∨ k = 5 := by omega
    rcases this with rfl | rfl | rfl | rfl | rfl | rfl <;> assumption
  have qv : w2.cell? ⟨w.heap.size, 6 + k, none⟩ = some (.int .i64 (V k)) := by
    have : k = 0 ∨ k = 1 ∨ k = 2 ∨ k = 3 ∨ k = 4 ∨ k = 5 := by omega
    rcases this with rfl | rfl | rfl | rfl | rfl | rfl <;> assumption
  clear hk
  go_wp2_with fail
  refine wp_region_past (by kernel_rfl) (by kernel_rfl) (fun hG => ?_)
  repeat (go_big_quiet_step ((go_at_call 32; exact Calls.regrown_of (HQ.out _))))
  refine wpQuiet_nil ?_
  intro w3 hb3
  obtain ⟨hc, hf, hl⟩ := bcell hb3; clear hG
  go_wp2_with fail
  all_goals
    go_ret
    exact ⟨by first | rfl | simp, on_past HB.out hb3⟩

theorem asks_walk (H : Nat → Bool) (V : Nat → Int) (b s t y k : Int) (w : World) :
    Calls Try.prog 13 #[mv H V b s t y, .int .i64 k] w fun e w' => e = .returned (.bool true) ∧ Below w.heap.size w w' := by
  have zc : ∀ x : Int, x = 0 ∨ (x == 0) = false := fun x => by by_cases h : x = 0 <;> simp [h]
  by_cases hk : 0 ≤ k ∧ k < 6
  · obtain ⟨n, rfl⟩ : ∃ n : Nat, k = n := ⟨k.toNat, by omega⟩
    rcases zc b with rfl | zb
    · rcases zc s with rfl | zs
      · rcases zc t with rfl | zt
        · rcases zc y with rfl | zy
          · exact asks_in4 H V n w (by omega)
          · exact asks_in3 H V y n w (by omega) zy
        · exact asks_in2 H V t y n w (by omega) zt
      · exact asks_in1 H V s t y n w (by omega) zs
    · exact asks_in0 H V b s t y n w (by omega) zb
  · rcases zc b with rfl | zb
    · rcases zc s with rfl | zs
      · rcases zc t with rfl | zt
        · rcases zc y with rfl | zy
          · exact asks_out4 H V k w hk
          · exact asks_out3 H V y k w hk zy
        · exact asks_out2 H V t y k w hk zt
      · exact asks_out1 H V s t y k w hk zs
    · exact asks_out0 H V b s t y k w hk zb

end Go.Proofs.Ytfaabjohlimnlaa
