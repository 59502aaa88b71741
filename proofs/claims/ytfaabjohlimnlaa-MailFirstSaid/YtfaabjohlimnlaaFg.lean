/- The walk of frame's Get. No condition. -/
import Derived.Test.YtfaabjohlimnlaaFx
import Derived.Laws.BitsAllLaws
namespace Go.Proofs.Ytfaabjohlimnlaa
open Go.ChangeShapes Go.WideShapes Go.RowKit Go.Sort
set_option linter.unusedVariables false
set_option linter.unusedSimpArgs false

/-- the result of Get, as a value -/
def gv (g : Fr.G) : Value := .tuple #[.agg #[.int .i64 g.kind, .int .i64 g.seq, .int .i64 g.value], .int .i64 g.err]

set_option maxHeartbeats 1000000 in
theorem get_short (a : Option Addr) (l : List Nat) (c : Nat) (w : World) (ha : RdB w a l) (h : l.length < 5) :
    Calls Try.prog 24 #[.slice a l.length c] w fun e w' => e = .returned (gv (Fr.get l)) ∧ Below w.heap.size w w' := by
  have hg : Fr.get l = ⟨0, 0, 0, 14⟩ := by unfold Fr.get; rw [if_pos h]
  rw [hg]
  clear hg
  go_enter Try.func24, Try.ntmps24
  go_wp2_with fail
  exact bodyPost_ret (v := gv ⟨0, 0, 0, 14⟩) (by simp [results, Try.results24, go_sem, gv]) rfl ⟨rfl, bself _ _⟩

set_option maxHeartbeats 1000000 in
theorem get_kind (a : Option Addr) (l : List Nat) (c : Nat) (w : World) (ha : RdB w a l) (h : 5 ≤ l.length) (hm : l.length ≤ 1000000) (hk : Fr.sz (l.getD 0 0) = 0) :
    Calls Try.prog 24 #[.slice a l.length c] w fun e w' => e = .returned (gv (Fr.get l)) ∧ Below w.heap.size w w' := by
  have hg : Fr.get l = ⟨0, 0, 0, 30⟩ := by unfold Fr.get; rw [if_neg (by omega), if_pos hk]
  rw [hg]
  clear hg
  obtain ⟨b, off, rfl, hbl, hcell⟩ := ha.at_ (by omega)
  have hc0 := hcell 0 (by omega)
  rw [Nat.add_zero] at hc0
  have hS : ∀ w, Calls Try.prog 35 #[.int .i64 ((l.getD 0 0 : Nat) : Int)] w fun e w' => e = .returned (.int .i64 0) ∧ w = w' := fun w => by
    have := size_any ((l.getD 0 0 : Nat) : Int) w
    rw [hk] at this
    exact this
  have hlt := getD_lt256 ha.lt 0
  generalize l.getD 0 0 = k at hc0 hS hlt
  have HS := Lib.hid hS; clear hS hcell hk ha
  go_enter Try.func24, Try.ntmps24
  go_wp2_with ((go_at_call 35; refine (HS.out _).mono ?_; rintro e w' ⟨rfl, rfl⟩))
  exact bodyPost_ret (v := gv ⟨0, 0, 0, 30⟩) (by simp [results, Try.results24, go_sem, gv]) rfl ⟨rfl, bself _ _⟩

set_option maxHeartbeats 1000000 in
theorem get_form (a : Option Addr) (l : List Nat) (c : Nat) (w : World) (ha : RdB w a l) (h : 5 ≤ l.length) (hm : l.length ≤ 1000000) (hk : Fr.sz (l.getD 0 0) ≠ 0) (hf : l.getD 2 0 ≠ Fr.sz (l.getD 0 0) ∨ l.length ≠ 5 + Fr.sz (l.getD 0 0)) :
    Calls Try.prog 24 #[.slice a l.length c] w fun e w' => e = .returned (gv (Fr.get l)) ∧ Below w.heap.size w w' := by
  have hg : Fr.get l = ⟨0, 0, 0, 11⟩ := by unfold Fr.get; rw [if_neg (by omega), if_neg hk, if_pos hf]
  rw [hg]
  clear hg
  obtain ⟨b, off, rfl, hbl, hcell⟩ := ha.at_ (by omega)
  have hc0 := hcell 0 (by omega)
  have hc2 := hcell 2 (by omega)
  rw [Nat.add_zero] at hc0
  have hS : ∀ w, Calls Try.prog 35 #[.int .i64 ((l.getD 0 0 : Nat) : Int)] w fun e w' => e = .returned (.int .i64 (Fr.sz ((l.getD 0 0 : Nat) : Int) : Int)) ∧ w = w' := fun w => size_any _ w
  have hn : Fr.sz ((l.getD 0 0 : Nat) : Int) ≤ 4 := by rcases Fr.sz_cases ((l.getD 0 0 : Nat) : Int) with h | h | h <;> omega
  have hlt := getD_lt256 ha.lt 0
  have hlt2 := getD_lt256 ha.lt 2
  generalize Fr.sz ((l.getD 0 0 : Nat) : Int) = n at hS hn hk hf
  generalize l.getD 0 0 = k at hc0 hS hlt
  generalize l.getD 2 0 = m at hc2 hlt2 hf
  have hn0 : ((n : Int) == 0) = false := by simp; omega
  have HS := Lib.hid hS; clear hS hcell hk ha
  by_cases h2 : m = n
  · have d1 : ((m : Int) != (n : Int)) = false := by simp; omega
    have d2 : ((l.length : Int) != 3 + (n : Int) + 2) = true := by simp; omega
    clear hf h2
    go_enter Try.func24, Try.ntmps24
    go_wp2_with ((go_at_call 35; refine (HS.out _).mono ?_; rintro e w' ⟨rfl, rfl⟩))
    exact bodyPost_ret (v := gv ⟨0, 0, 0, 11⟩) (by simp [results, Try.results24, go_sem, gv]) rfl ⟨rfl, bself _ _⟩
  · have d1 : ((m : Int) != (n : Int)) = true := by simp; omega
    clear hf h2
    go_enter Try.func24, Try.ntmps24
    go_wp2_with ((go_at_call 35; refine (HS.out _).mono ?_; rintro e w' ⟨rfl, rfl⟩))
    exact bodyPost_ret (v := gv ⟨0, 0, 0, 11⟩) (by simp [results, Try.results24, go_sem, gv]) rfl ⟨rfl, bself _ _⟩

end Go.Proofs.Ytfaabjohlimnlaa
