/- The walk of the law MailSorts. No condition. -/
import Derived.Test.YtfaabjohlimnlaaMg
namespace Go.Proofs.Ytfaabjohlimnlaa
open Go.ChangeShapes Go.WideShapes Go.RowKit Go.Sort
set_option linter.unusedVariables false
set_option linter.unusedSimpArgs false

theorem sorts_great (cycle : Int) (A : Option Addr) (rs : List Rw) (c : Nat) (w : World) (hr : RdR w A rs) (hcl : rs.length ≤ c) (hcm : c ≤ maxLen) (hg : greatB rs = true) :
    Calls Try.prog 10 #[.int .i64 cycle, .slice A rs.length c] w fun e w' => e = .returned (.bool true) ∧ Below w.heap.size w w' := by
  have HR := Lib.hid hr; clear hr
  have HG := Lib.hid (fun w' (hb : Below w.heap.size w w') => great_any A rs c w' (HR.out.below hb) hcl hcm)
  rw [hg] at HG
  clear hg
  go_enter Try.func10, Try.ntmps10
  go_wp2_with fail
  refine (mailAnchor_any _).mono ?_
  rintro e w1 ⟨rfl, hb1⟩
  go_wp2_with fail
  refine (HG.out _ hb1).mono ?_
  rintro e w2 ⟨rfl, rfl⟩
  go_wp2_with fail
  go_ret
  exact ⟨rfl, hb1⟩

set_option maxRecDepth 100000 in
set_option maxHeartbeats 1000000 in
theorem sorts_ok (cycle : Int) (A : Option Addr) (rs : List Rw) (c : Nat) (w : World) (hcy : -9223372036854775808 ≤ cycle) (hcy' : cycle ≤ 9223372036854775807) (hr : RdR w A rs) (hcl : rs.length ≤ c) (hcm : c ≤ maxLen) (hg : greatB rs = false) :
    Calls Try.prog 10 #[.int .i64 cycle, .slice A rs.length c] w fun e w' => e = .returned (.bool true) ∧ Below w.heap.size w w' := by
  have HR := Lib.hid hr; clear hr
  obtain ⟨hl, hn⟩ := great_no hg
  have HG := Lib.hid (fun w' (hb : Below w.heap.size w w') => great_any A rs c w' (HR.out.below hb) hcl hcm)
  rw [hg] at HG
  have HS := Lib.hid (fun w' (hb : Below w.heap.size w w') => sort_any cycle A rs c w' (HR.out.below hb) hcl hcm (by omega) (fun r hr => Nat.le_trans (hl r hr) (by omega)))
  have HX := Lib.hid (fun w' (hb : Below w.heap.size w w') => rsort_any cycle A rs c w' hcy hcy' (HR.out.below hb) hcl hcm (by omega) (fun r hr => Nat.le_trans (hl r hr) (by omega)))
  clear hg hl
  generalize Ml.sort cycle (texts rs) = mm at HS HX
  go_enter Try.func10, Try.ntmps10
  go_wp2_with fail
  refine (mailAnchor_any _).mono ?_
  rintro e w1 ⟨rfl, hb1⟩
  go_wp2_with fail
  refine (HG.out _ hb1).mono ?_
  rintro e w2 ⟨rfl, rfl⟩
  go_wp2_with fail
  refine (HS.out _ hb1).mono ?_
  rintro e w2 ⟨rfl, hb2⟩
  have hb12 := on_past hb1 hb2
  have hv : mm.v = .agg mm.cells.toArray := rfl
  have hrv : mm.rv = .agg mm.rcells.toArray := rfl
  rw [hv]
  go_wp2_with (refine wpList_store_new rfl 55 (.tmp 5) (.tmp 14) rfl 55 _ mm.cells rfl rfl rfl mailSize mm.cells_one ?_)
  refine (HX.out _ (on_alloc hb12 _)).mono ?_
  rintro e w3 ⟨rfl, hb3⟩
  have hb13 := on_past (on_alloc hb12 _) hb3
  rw [hrv]
  have hz3 : w2.heap.size < w3.heap.size := by have := hb3.size; simp at this; omega
  have hM := range_below (range_alloc_new w2 mm.cells 55 _ rfl) (by simp) hb3
  go_wp2_with (refine wpList_store_new rfl 60 (.tmp 6) (.tmp 17) rfl 60 _ mm.rcells rfl rfl rfl refSize mm.rcells_one ?_)
  have hM2 := World.rangeAt_alloc hM (.cells mm.rcells.toArray 60)
  have hX2 := range_alloc_new w3 mm.rcells 60 _ rfl
  have HB := Lib.hid (on_alloc hb13 (.cells mm.rcells.toArray 60))
  generalize hW : w3.alloc (.cells mm.rcells.toArray 60) = W at hM2 hX2 HB ⊢
  have HM := Lib.hid hM2
  have HXX := Lib.hid hX2
  generalize w2.heap.size = g1 at HM ⊢
  generalize w3.heap.size = g2 at HXX ⊢
  clear hW hM hM2 hX2 hb13 hb12 hb1 hb2 hb3 hz3 hv hrv
  go_loopw [18, 7] (fun s18 s7 wr => ∃ k n : Nat, k ≤ 6 ∧ s18 = .int .i64 k ∧ wr = W.drewN n) (fun s18 _ _ => 6 - (intOf s18).toNat)
  case atStart => exact ⟨0, 0, by omega, rfl, rfl⟩
  case round =>
    obtain ⟨k, n, hk, rfl, rfl⟩ := hrel
    by_cases hlt : k < 6
    · have q1 : W.cell? ⟨g1, k, none⟩ = some (.bool (mm.has k)) := by
        have := HM.out k (.bool (mm.has k)) (by
          have : k = 0 ∨ k = 1 ∨ k = 2 ∨ k = 3 ∨ k = 4 ∨ k = 5 := by omega
          rcases this with rfl | rfl | rfl | rfl | rfl | rfl <;> rfl)
        simpa using this
      have q2 : W.cell? ⟨g1, 6 + k, none⟩ = some (.int .i64 (mm.val k)) := by
        have := HM.out (6 + k) (.int .i64 (mm.val k)) (by
          have : k = 0 ∨ k = 1 ∨ k = 2 ∨ k = 3 ∨ k = 4 ∨ k = 5 := by omega
          rcases this with rfl | rfl | rfl | rfl | rfl | rfl <;> rfl)
        simpa using this
      have q3 : W.cell? ⟨g2, k, none⟩ = some (.int .i64 (if mm.has k = true then 1 else 0)) := by
        have := HXX.out k (.int .i64 (if mm.has k = true then 1 else 0)) (by
          have : k = 0 ∨ k = 1 ∨ k = 2 ∨ k = 3 ∨ k = 4 ∨ k = 5 := by omega
          rcases this with rfl | rfl | rfl | rfl | rfl | rfl <;> rfl)
        simpa using this
      have q4 : W.cell? ⟨g2, 6 + k, none⟩ = some (.int .i64 (mm.val k)) := by
        have := HXX.out (6 + k) (.int .i64 (mm.val k)) (by
          have : k = 0 ∨ k = 1 ∨ k = 2 ∨ k = 3 ∨ k = 4 ∨ k = 5 := by omega
          rcases this with rfl | rfl | rfl | rfl | rfl | rfl <;> rfl)
        simpa using this
      have hk0 : (0 : Int) ≤ (k : Int) := by omega
      have hk6 : (k : Int) < 6 := by omega
      have hne : (mm.val k != mm.val k) = false := by simp
      generalize mm.val k = vk at q2 q4 hne
      generalize mm.has k = hb at q1 q3
      cases hb
      all_goals
        simp only [if_true, Bool.false_eq_true, if_false] at q3
        go_wp2_with fail
        go_quiet (fail)
        go_wp2_with fail
        go_roundw
        case rel => exact ⟨k + 1, _, by omega, by go_num, by rfl⟩
        case measure => simp [intOf]; omega
    · obtain rfl : k = 6 := by omega
      have q1 : W.cell? ⟨g1, 12, none⟩ = some (.int .i64 mm.bad) := by simpa using HM.out 12 _ rfl
      have q2 : W.cell? ⟨g1, 13, none⟩ = some (.int .i64 mm.stale) := by simpa using HM.out 13 _ rfl
      have q3 : W.cell? ⟨g1, 14, none⟩ = some (.int .i64 mm.twice) := by simpa using HM.out 14 _ rfl
      have q4 : W.cell? ⟨g1, 15, none⟩ = some (.int .i64 mm.beyond) := by simpa using HM.out 15 _ rfl
      have p1 : W.cell? ⟨g2, 12, none⟩ = some (.int .i64 mm.bad) := by simpa using HXX.out 12 (.int .i64 _) rfl
      have p2 : W.cell? ⟨g2, 13, none⟩ = some (.int .i64 mm.stale) := by simpa using HXX.out 13 (.int .i64 _) rfl
      have p3 : W.cell? ⟨g2, 14, none⟩ = some (.int .i64 mm.twice) := by simpa using HXX.out 14 (.int .i64 _) rfl
      have p4 : W.cell? ⟨g2, 15, none⟩ = some (.int .i64 mm.beyond) := by simpa using HXX.out 15 (.int .i64 _) rfl
      go_wp2_with fail
      go_ret
      exact ⟨by simp, bdN HB.out _⟩

theorem sorts_walk (cycle : Int) (A : Option Addr) (rs : List Rw) (c : Nat) (w : World) (hcy : -9223372036854775808 ≤ cycle) (hcy' : cycle ≤ 9223372036854775807) (hr : RdR w A rs) (hcl : rs.length ≤ c) (hcm : c ≤ maxLen) :
    Calls Try.prog 10 #[.int .i64 cycle, .slice A rs.length c] w fun e w' => e = .returned (.bool true) ∧ Below w.heap.size w w' := by
  cases hg : greatB rs with
  | true => exact sorts_great cycle A rs c w hr hcl hcm hg
  | false => exact sorts_ok cycle A rs c w hcy hcy' hr hcl hcm hg

end Go.Proofs.Ytfaabjohlimnlaa
