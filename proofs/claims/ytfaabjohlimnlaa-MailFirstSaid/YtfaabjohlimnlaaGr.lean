/- The walk of the reference's Size and Get of frames. No condition. -/
import Derived.Test.YtfaabjohlimnlaaFh
import Derived.Test.YtfaabjohlimnlaaCy
import Derived.Test.YtfaabjohlimnlaaQt
namespace Go.Proofs.Ytfaabjohlimnlaa
open Go.ChangeShapes Go.WideShapes Go.RowKit Go.Sort
set_option linter.unusedVariables false
set_option linter.unusedSimpArgs false

theorem store3 {w w1 : World} {b : Nat} (hb0 : Below w.heap.size w w1) (hb : w.heap.size ≤ b) {x' y' z' : Value} (h0 : w1.cell? ⟨b, 0, none⟩ = some x') (h1 : w1.cell? ⟨b, 1, none⟩ = some y') (h2 : w1.cell? ⟨b, 2, none⟩ = some z') (x y z : Value) :
    ∃ wz, wz = (((w1.setCell ⟨b, 0, none⟩ x).setCell ⟨b, 1, none⟩ y).setCell ⟨b, 2, none⟩ z) ∧ Below w.heap.size w wz ∧ wz.cell? ⟨b, 0, none⟩ = some x ∧ wz.cell? ⟨b, 1, none⟩ = some y ∧ wz.cell? ⟨b, 2, none⟩ = some z := by
  refine ⟨_, rfl, on_set (on_set (on_set hb0 hb _) hb _) hb _, ?_, ?_, ?_⟩
  · rw [World.cell?_setCell_other _ _ _ _ (by simp), World.cell?_setCell_other _ _ _ _ (by simp), World.cell?_setCell_same _ _ _ h0]
  · rw [World.cell?_setCell_other _ _ _ _ (by simp)]
    exact World.cell?_setCell_same _ _ _ (by rw [World.cell?_setCell_other _ _ _ _ (by simp)]; exact h1)
  · exact World.cell?_setCell_same _ _ _ (by rw [World.cell?_setCell_other _ _ _ _ (by simp), World.cell?_setCell_other _ _ _ _ (by simp)]; exact h2)

theorem after3 {w w1 : World} {t : TypeId} {x y z : Value} (hb1 : Below (w.alloc (.cells #[x, y, z] t)).heap.size (w.alloc (.cells #[x, y, z] t)) w1) :
    w1.cell? ⟨w.heap.size, 0, none⟩ = some x ∧ w1.cell? ⟨w.heap.size, 1, none⟩ = some y ∧ w1.cell? ⟨w.heap.size, 2, none⟩ = some z := by
  obtain ⟨hc, _, _⟩ := bcell hb1
  refine ⟨?_, ?_, ?_⟩ <;> rw [hc _ _ (by simp)] <;> rw [World.cell?_alloc_mark] <;> rfl

theorem rsize_any (k : Int) (w : World) : Calls Try.prog 37 #[.int .i64 k] w fun e w' => e = .returned (.int .i64 (Fr.sz k : Int)) ∧ Below w.heap.size w w' := by
  by_cases h : k < 1 ∨ k > 5
  · have hs : Fr.sz k = 0 := by rcases Fr.sz_cases k with h | h | h <;> omega
    rw [hs]
    go_enter Try.func37, Try.ntmps37
    rcases h with h | h
    · go_wp2
      go_ret
      exact ⟨rfl, bself _ _⟩
    · have h2 : ¬ k < 1 := by omega
      go_wp2
      go_ret
      exact ⟨rfl, bself _ _⟩
  · obtain h | h | h | h | h : k = 1 ∨ k = 2 ∨ k = 3 ∨ k = 4 ∨ k = 5 := by omega
    all_goals
      subst h
      clear h
      go_enter Try.func37, Try.ntmps37
      go_wp2
      go_ret
      exact ⟨rfl, bself _ _⟩

set_option maxHeartbeats 1000000 in
theorem rget_short (a : Option Addr) (l : List Nat) (c : Nat) (w : World) (ha : RdB w a l) (h : l.length < 5) :
    Calls Try.prog 25 #[.slice a l.length c] w fun e w' => e = .returned (gv (Fr.get l)) ∧ Below w.heap.size w w' := by
  have hg : Fr.get l = ⟨0, 0, 0, 14⟩ := by unfold Fr.get; rw [if_pos h]
  rw [hg]
  clear hg
  go_enter Try.func25, Try.ntmps25
  go_wp2_with fail
  exact bodyPost_ret (v := gv ⟨0, 0, 0, 14⟩) (by simp [results, Try.results25, go_sem, gv]) rfl ⟨rfl, bself _ _⟩

set_option maxHeartbeats 1000000 in
theorem rget_kind (a : Option Addr) (l : List Nat) (c : Nat) (w : World) (ha : RdB w a l) (h : 5 ≤ l.length) (hm : l.length ≤ 1000000) (hk : Fr.sz (l.getD 0 0) = 0) :
    Calls Try.prog 25 #[.slice a l.length c] w fun e w' => e = .returned (gv (Fr.get l)) ∧ Below w.heap.size w w' := by
  have hg : Fr.get l = ⟨0, 0, 0, 30⟩ := by unfold Fr.get; rw [if_neg (by omega), if_pos hk]
  rw [hg]
  clear hg
  obtain ⟨b, off, rfl, hbl, hcell⟩ := ha.at_ (by omega)
  have hc0 := hcell 0 (by omega)
  rw [Nat.add_zero] at hc0
  have hS : ∀ w, Calls Try.prog 37 #[.int .i64 ((l.getD 0 0 : Nat) : Int)] w fun e w' => e = .returned (.int .i64 0) ∧ Below w.heap.size w w' := fun w => by
    have := rsize_any ((l.getD 0 0 : Nat) : Int) w
    rw [hk] at this
    exact this
  have hlt := getD_lt256 ha.lt 0
  generalize l.getD 0 0 = k at hc0 hS hlt
  have HS := Lib.hid hS; clear hS hcell hk ha
  go_enter Try.func25, Try.ntmps25
  go_wp2_with fail
  refine (HS.out _).mono ?_
  rintro e w1 ⟨rfl, hb1⟩
  have hb0 := on_past (bself _ _) hb1
  obtain ⟨hc, hz, hl⟩ := bcell hb1
  obtain ⟨q0, q1, q2⟩ := after3 hb1
  have zw10 : w.heap.size < w1.heap.size := by have := hb1.size; simp at this; omega
  clear hc
  clear HS
  go_wp2_with fail
  obtain ⟨wz, ez, hbz, c0, c1, c2⟩ := store3 hb0 (Nat.le_refl _) q0 q1 q2 (.int .i64 0) (.int .i64 0) (.int .i64 0)
  rw [← ez]
  clear ez hz hl
  exact bodyPost_ret (v := gv ⟨0, 0, 0, 30⟩) (by simp [results, Try.results25, go_sem, gv, c0, c1, c2]) rfl ⟨rfl, hbz⟩

set_option maxHeartbeats 1000000 in
theorem rget_form (a : Option Addr) (l : List Nat) (c : Nat) (w : World) (ha : RdB w a l) (h : 5 ≤ l.length) (hm : l.length ≤ 1000000) (hk : Fr.sz (l.getD 0 0) ≠ 0) (hf : l.getD 2 0 ≠ Fr.sz (l.getD 0 0) ∨ l.length ≠ 5 + Fr.sz (l.getD 0 0)) :
    Calls Try.prog 25 #[.slice a l.length c] w fun e w' => e = .returned (gv (Fr.get l)) ∧ Below w.heap.size w w' := by
  have hg : Fr.get l = ⟨0, 0, 0, 11⟩ := by unfold Fr.get; rw [if_neg (by omega), if_neg hk, if_pos hf]
  rw [hg]
  clear hg
  have HA := Lib.hid ha
  obtain ⟨b, off, rfl, hbl, hcell⟩ := ha.at_ (by omega)
  have hc0 := hcell 0 (by omega)
  have hc2 := hcell 2 (by omega)
  rw [Nat.add_zero] at hc0
  have hS : ∀ w, Calls Try.prog 37 #[.int .i64 ((l.getD 0 0 : Nat) : Int)] w fun e w' => e = .returned (.int .i64 (Fr.sz ((l.getD 0 0 : Nat) : Int) : Int)) ∧ Below w.heap.size w w' := fun w => rsize_any _ w
  have hn : Fr.sz ((l.getD 0 0 : Nat) : Int) ≤ 4 := by rcases Fr.sz_cases ((l.getD 0 0 : Nat) : Int) with h | h | h <;> omega
  have hlt := getD_lt256 ha.lt 0
  have hlt2 := getD_lt256 ha.lt 2
  generalize Fr.sz ((l.getD 0 0 : Nat) : Int) = n at hS hn hk hf
  generalize l.getD 0 0 = k at hc0 hS hlt
  generalize l.getD 2 0 = m at hc2 hlt2 hf
  have hn0 : ((n : Int) == 0) = false := by simp; omega
  have HS := Lib.hid hS; clear hS hcell hk ha
  go_enter Try.func25, Try.ntmps25
  go_wp2_with fail
  refine (HS.out _).mono ?_
  rintro e w1 ⟨rfl, hb1⟩
  have hb0 := on_past (bself _ _) hb1
  obtain ⟨hc, hz, hl⟩ := bcell hb1
  obtain ⟨q0, q1, q2⟩ := after3 hb1
  have zw10 : w.heap.size < w1.heap.size := by have := hb1.size; simp at this; omega
  clear hc
  have hc2' := (Below.cell (p := ⟨b, off + 2, none⟩) hb0 hbl).trans hc2
  clear hc2
  by_cases h2 : m = n
  · have d1 : ((m : Int) != (n : Int)) = false := by simp; omega
    have d2 : ((l.length : Int) != 5 + (n : Int)) = true := by simp; omega
    clear hf h2
    go_wp2_with fail
    obtain ⟨wz, ez, hbz, c0, c1, c2⟩ := store3 hb0 (Nat.le_refl _) q0 q1 q2 (.int .i64 0) (.int .i64 0) (.int .i64 0)
    rw [← ez]
    clear ez hz hl
    exact bodyPost_ret (v := gv ⟨0, 0, 0, 11⟩) (by simp [results, Try.results25, go_sem, gv, c0, c1, c2]) rfl ⟨rfl, hbz⟩
  · have d1 : ((m : Int) != (n : Int)) = true := by simp; omega
    clear hf h2
    go_wp2_with fail
    obtain ⟨wz, ez, hbz, c0, c1, c2⟩ := store3 hb0 (Nat.le_refl _) q0 q1 q2 (.int .i64 0) (.int .i64 0) (.int .i64 0)
    rw [← ez]
    clear ez hz hl
    exact bodyPost_ret (v := gv ⟨0, 0, 0, 11⟩) (by simp [results, Try.results25, go_sem, gv, c0, c1, c2]) rfl ⟨rfl, hbz⟩

end Go.Proofs.Ytfaabjohlimnlaa
