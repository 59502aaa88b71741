/- The walk of frame's Get, where the sum is asked. No condition. -/
import Derived.Test.YtfaabjohlimnlaaFg
import Derived.Deep.LoopGhost
namespace Go.Proofs.Ytfaabjohlimnlaa
open Go.ChangeShapes Go.WideShapes Go.RowKit Go.Sort
set_option linter.unusedVariables false
set_option linter.unusedSimpArgs false

set_option maxHeartbeats 1000000 in
theorem get_sum (a : Option Addr) (l : List Nat) (c : Nat) (w : World) (ha : RdB w a l) (h : 5 ≤ l.length) (hm : l.length ≤ 1000000) (hk : Fr.sz (l.getD 0 0) ≠ 0) (hf : ¬ (l.getD 2 0 ≠ Fr.sz (l.getD 0 0) ∨ l.length ≠ 5 + Fr.sz (l.getD 0 0))) (hs : Crc.sum l ≠ 0) :
    Calls Try.prog 24 #[.slice a l.length c] w fun e w' => e = .returned (gv (Fr.get l)) ∧ Below w.heap.size w w' := by
  have hg : Fr.get l = ⟨0, 0, 0, 31⟩ := by unfold Fr.get; rw [if_neg (by omega), if_neg hk, if_neg hf, if_pos hs]
  rw [hg]
  clear hg
  have HA := Lib.hid ha
  obtain ⟨b, off, rfl, hbl, hcell⟩ := ha.at_ (by omega)
  have hc0 := hcell 0 (by omega)
  have hc2 := hcell 2 (by omega)
  rw [Nat.add_zero] at hc0
  have hS : ∀ w, Calls Try.prog 35 #[.int .i64 ((l.getD 0 0 : Nat) : Int)] w fun e w' => e = .returned (.int .i64 (Fr.sz ((l.getD 0 0 : Nat) : Int) : Int)) ∧ w = w' := fun w => size_any _ w
  have hn : Fr.sz ((l.getD 0 0 : Nat) : Int) ≤ 4 := by rcases Fr.sz_cases ((l.getD 0 0 : Nat) : Int) with h | h | h <;> omega
  have hlt := getD_lt256 ha.lt 0
  have hlt2 := getD_lt256 ha.lt 2
  generalize Fr.sz ((l.getD 0 0 : Nat) : Int) = n at hS hn hk hf
  generalize l.getD 0 0 = k at hc0 hS hlt
  generalize l.getD 2 0 = m at hc2 hlt2 hf
  have hn0 : ((n : Int) == 0) = false := by simp; omega
  have d1 : ((m : Int) != (n : Int)) = false := by simp; omega
  have d2 : ((l.length : Int) != 3 + (n : Int) + 2) = false := by simp; omega
  have d3 : (((Crc.sum l).toNat : Int) != 0) = true := by
    rw [bne_iff_ne]
    intro h
    apply hs
    apply BitVec.eq_of_toNat_eq
    simpa using h
  have HS := Lib.hid hS; clear hS hcell hk ha hf hs
  go_enter Try.func24, Try.ntmps24
  go_wp2_with ((go_at_call 35; refine (HS.out _).mono ?_; rintro e w' ⟨rfl, rfl⟩))
  refine (sum_any _ l c _ (HA.out.below (bself _ _)) (by omega)).mono ?_
  rintro e w' ⟨rfl, rfl⟩
  go_wp2_with fail
  exact bodyPost_ret (v := gv ⟨0, 0, 0, 31⟩) (by simp [results, Try.results24, go_sem, gv]) rfl ⟨rfl, bself _ _⟩

theorem Fr.val_lt (l : List Nat) (hl : ∀ x ∈ l, x < 256) : Fr.val l < 256 ^ l.length := by
  suffices H : ∀ (l : List Nat) (a : Nat), (∀ x ∈ l, x < 256) → l.foldl (fun v c => v * 256 + c) a < (a + 1) * 256 ^ l.length by
    have := H l 0 hl
    simpa [Fr.val] using this
  intro l
  induction l with
  | nil => intro a _; simp
  | cons x l ih =>
    intro a h
    have h1 := ih (a * 256 + x) (fun y hy => h y (List.mem_cons_of_mem _ hy))
    have hx := h x (List.mem_cons_self ..)
    rw [List.foldl_cons, List.length_cons, Nat.pow_succ]
    calc _ < (a * 256 + x + 1) * 256 ^ l.length := h1
      _ ≤ ((a + 1) * 256) * 256 ^ l.length := Nat.mul_le_mul_right _ (by omega)
      _ = _ := by rw [Nat.mul_assoc, Nat.mul_comm 256]

theorem or_byte (u c : Nat) (hc : c < 256) : u * 256 ||| c = u * 256 + c := by
  have := Nat.two_pow_add_eq_or_of_lt (i := 8) (b := c) (by simpa using hc) u
  rw [show (2 : Nat) ^ 8 = 256 by rfl] at this
  rw [Nat.mul_comm, this]

set_option maxRecDepth 100000 in
set_option maxHeartbeats 2000000 in
theorem get_ok2 (a : Option Addr) (l : List Nat) (c : Nat) (w : World) (ha : RdB w a l) (hcl : l.length ≤ c) (hcm : c ≤ maxLen) (h : l.length = 5 + 2) (hk : Fr.sz (l.getD 0 0) = 2) (hf : l.getD 2 0 = 2) (hs : Crc.sum l = 0) :
    Calls Try.prog 24 #[.slice a l.length c] w fun e w' => e = .returned (gv (Fr.get l)) ∧ Below w.heap.size w w' := by
  have hg : Fr.get l = ⟨l.getD 0 0, l.getD 1 0, Fr.sgn 2 (Fr.val ((l.drop 3).take 2)), 0⟩ := by
    unfold Fr.get; rw [if_neg (by omega), hk, if_neg (by omega), if_neg (by omega), if_neg (by simp [hs])]
  rw [hg]
  clear hg
  have hkk : (l.getD 0 0 = 1 ∨ l.getD 0 0 = 2 ∨ l.getD 0 0 = 5) ∨ (l.getD 0 0 = 3 ∨ l.getD 0 0 = 4) := by
    rcases Fr.sz_cases ((l.getD 0 0 : Nat) : Int) with h | h | h <;> omega
  have hkn : l.getD 0 0 = 1 ∨ l.getD 0 0 = 2 ∨ l.getD 0 0 = 5 := by
    rcases Fr.sz_cases ((l.getD 0 0 : Nat) : Int) with h | h | h <;> omega
  clear hkk
  have HA := Lib.hid ha
  obtain ⟨b, off, rfl, hbl, hcell⟩ := ha.at_ (by omega)
  have HCell := Lib.hid hcell
  have hc0 := hcell 0 (by omega)
  have hc1 := hcell 1 (by omega)
  have hc2 := hcell 2 (by omega)
  rw [Nat.add_zero] at hc0
  rw [hf] at hc2
  have hS : ∀ w, Calls Try.prog 35 #[.int .i64 ((l.getD 0 0 : Nat) : Int)] w fun e w' => e = .returned (.int .i64 2) ∧ w = w' := fun w => by
    have := size_any ((l.getD 0 0 : Nat) : Int) w
    rw [hk] at this
    exact this
  have hlt := getD_lt256 ha.lt 0
  have hlt1 := getD_lt256 ha.lt 1
  have hltd : ∀ x ∈ (l.drop 3).take 2, x < 256 := fun x hx => ha.lt x (List.mem_of_mem_drop (List.mem_of_mem_take hx))
  have hvl := Fr.val_lt ((l.drop 3).take 2) hltd
  rw [show ((l.drop 3).take 2).length = 2 by rw [List.length_take, List.length_drop]; omega] at hvl
  have HVL := Lib.hid hvl; clear hvl
  clear hk
  generalize l.getD 0 0 = k at hc0 hS hlt hkn
  generalize l.getD 1 0 = q at hc1 hlt1
  have e0 : (Crc.sum l).toNat = 0 := by rw [hs]; rfl
  have h' : (l.length : Int) = 5 + 2 := by omega
  have hlen := Lib.hid h
  have d2 : ((l.length : Int) != 7) = false := by simp; omega
  have HS := Lib.hid hS
  have HSum := Lib.hid e0
  have hcm' := hcm
  clear hS hcell ha hf hs h h' e0
  have hl5 : 5 ≤ l.length := by have := hlen.out; omega
  have hlu : l.length ≤ 7 := by have := hlen.out; omega
  have hlu2 : 7 ≤ l.length := by have := hlen.out; omega
  go_enter Try.func24, Try.ntmps24
  go_wp2_with ((go_at_call 35; refine (HS.out _).mono ?_; rintro e w' ⟨rfl, rfl⟩))
  refine (sum_any _ l c _ (HA.out.below (bself _ _)) (by omega)).mono ?_
  rintro e w' ⟨rfl, rfl⟩
  rw [HSum.out]
  go_wp2_with fail
  go_loopg [6, 50] 2 (fun r s6 s50 wr => ∃ (i u : Nat), Hid (i + r = 2) ∧ i ≤ 2 ∧ s50 = .int .i64 i ∧ s6 = .int .u32 u ∧ Hid (u = Fr.val ((l.drop 3).take i)) ∧ wr = w.alloc (.cells #[.int .i64 0, .int .i64 0, .int .i64 0] 35))
  case atStart => exact ⟨0, 0, by simp [Hid], by omega, rfl, rfl, by simp [Hid, Fr.val], rfl⟩
  case round =>
    obtain ⟨i, u, hi, hin, rfl, rfl, HU, rfl⟩ := hrel
    by_cases hlt' : i < 2
    · have hx := HCell.out (3 + i) (by omega)
      have hx2 : (w.alloc (.cells #[.int .i64 0, .int .i64 0, .int .i64 0] 35)).cell? ⟨b, off + 3 + i, none⟩ = some (.int .u8 (l.getD (3 + i) 0 : Nat)) := by
        rw [World.cell?_alloc_lt _ _ _ (by simpa using hbl), Nat.add_assoc]
        exact hx
      have lx := getD_lt256 HA.out.lt (3 + i)
      have hsn : (l.drop 3).take (i + 1) = (l.drop 3).take i ++ [l.getD (3 + i) 0] := by
        rw [take_snoc (by rw [List.length_drop]; omega)]
        congr 2
        simp [List.getD, List.getElem?_drop]
      have HSN := Lib.hid hsn; clear hsn hx
      have hub : u < 16777216 := by
        have h1 := Fr.val_lt ((l.drop 3).take i) (fun x hx => HA.out.lt x (List.mem_of_mem_drop (List.mem_of_mem_take hx)))
        rw [← show u = _ from HU.out] at h1
        have h2 : ((l.drop 3).take i).length ≤ 3 := by rw [List.length_take]; omega
        have h3 : 256 ^ ((l.drop 3).take i).length ≤ 256 ^ 3 := Nat.pow_le_pow_right (by omega) h2
        omega
      generalize l.getD (3 + i) 0 = x at hx2 lx HSN
      obtain ⟨u', hu'⟩ : ∃ u' : Nat, u' = u * 256 + x := ⟨_, rfl⟩
      have e1 : bits .or .u32 ((u : Int) * 256) (x : Int) = (u' : Int) := by
        have h1 := u32_or_nat (u * 256) x (by omega) (by omega)
        rw [or_byte u x lx, ← hu'] at h1
        rw [← h1]
        congr 1
      have HU' := Lib.hid hu'; clear hu'
      go_wp2_with fail
      go_roundg (gk - 1)
      case measure => have := hi.out; omega
      case rel =>
        refine ⟨i + 1, u', show i + 1 + (gk - 1) = 2 by have := hi.out; omega, by omega, by go_num, rfl, ?_, rfl⟩
        show u' = _
        rw [HSN.out, Fr.val_snoc, ← show u = _ from HU.out]
        exact HU'.out
    · obtain rfl : i = 2 := by omega
      have hub : u < 65536 := by rw [show u = _ from HU.out]; exact HVL.out
      have hub' : (u : Int) < 65536 := by omega
      clear hub
      have hsg : Fr.sgn 2 (Fr.val ((l.drop 3).take 2)) = (u : Int) := by
        rw [← show u = _ from HU.out]
        unfold Fr.sgn
        rw [if_neg (by omega)]
      have HSG := Lib.hid hsg; clear hsg
      go_wp2_with ((go_at_call 38; refine (signed_no (k : Int) _ (by omega)).mono ?_; rintro e w' ⟨rfl, rfl⟩))
      exact bodyPost_ret (v := gv ⟨k, q, (u : Int), 0⟩) (by simp [results, Try.results24, go_sem, gv]) rfl ⟨by rw [HSG.out], bself2 _ _ _⟩

set_option maxRecDepth 100000 in
set_option maxHeartbeats 2000000 in
theorem get_ok4 (a : Option Addr) (l : List Nat) (c : Nat) (w : World) (ha : RdB w a l) (hcl : l.length ≤ c) (hcm : c ≤ maxLen) (h : l.length = 5 + 4) (hk : Fr.sz (l.getD 0 0) = 4) (hf : l.getD 2 0 = 4) (hs : Crc.sum l = 0) :
    Calls Try.prog 24 #[.slice a l.length c] w fun e w' => e = .returned (gv (Fr.get l)) ∧ Below w.heap.size w w' := by
  have hg : Fr.get l = ⟨l.getD 0 0, l.getD 1 0, Fr.sgn 4 (Fr.val ((l.drop 3).take 4)), 0⟩ := by
    unfold Fr.get; rw [if_neg (by omega), hk, if_neg (by omega), if_neg (by omega), if_neg (by simp [hs])]
  rw [hg]
  clear hg
  have hkk : (l.getD 0 0 = 1 ∨ l.getD 0 0 = 2 ∨ l.getD 0 0 = 5) ∨ (l.getD 0 0 = 3 ∨ l.getD 0 0 = 4) := by
    rcases Fr.sz_cases ((l.getD 0 0 : Nat) : Int) with h | h | h <;> omega
  have hkn : l.getD 0 0 = 3 ∨ l.getD 0 0 = 4 := by
    rcases Fr.sz_cases ((l.getD 0 0 : Nat) : Int) with h | h | h <;> omega
  clear hkk
  have HA := Lib.hid ha
  obtain ⟨b, off, rfl, hbl, hcell⟩ := ha.at_ (by omega)
  have HCell := Lib.hid hcell
  have hc0 := hcell 0 (by omega)
  have hc1 := hcell 1 (by omega)
  have hc2 := hcell 2 (by omega)
  rw [Nat.add_zero] at hc0
  rw [hf] at hc2
  have hS : ∀ w, Calls Try.prog 35 #[.int .i64 ((l.getD 0 0 : Nat) : Int)] w fun e w' => e = .returned (.int .i64 4) ∧ w = w' := fun w => by
    have := size_any ((l.getD 0 0 : Nat) : Int) w
    rw [hk] at this
    exact this
  have hlt := getD_lt256 ha.lt 0
  have hlt1 := getD_lt256 ha.lt 1
  have hltd : ∀ x ∈ (l.drop 3).take 4, x < 256 := fun x hx => ha.lt x (List.mem_of_mem_drop (List.mem_of_mem_take hx))
  have hvl := Fr.val_lt ((l.drop 3).take 4) hltd
  rw [show ((l.drop 3).take 4).length = 4 by rw [List.length_take, List.length_drop]; omega] at hvl
  have HVL := Lib.hid hvl; clear hvl
  clear hk
  generalize l.getD 0 0 = k at hc0 hS hlt hkn
  generalize l.getD 1 0 = q at hc1 hlt1
  have e0 : (Crc.sum l).toNat = 0 := by rw [hs]; rfl
  have h' : (l.length : Int) = 5 + 4 := by omega
  have hlen := Lib.hid h
  have d2 : ((l.length : Int) != 9) = false := by simp; omega
  have HS := Lib.hid hS
  have HSum := Lib.hid e0
  have hcm' := hcm
  clear hS hcell ha hf hs h h' e0
  have hl5 : 5 ≤ l.length := by have := hlen.out; omega
  have hlu : l.length ≤ 9 := by have := hlen.out; omega
  have hlu2 : 9 ≤ l.length := by have := hlen.out; omega
  go_enter Try.func24, Try.ntmps24
  go_wp2_with ((go_at_call 35; refine (HS.out _).mono ?_; rintro e w' ⟨rfl, rfl⟩))
  refine (sum_any _ l c _ (HA.out.below (bself _ _)) (by omega)).mono ?_
  rintro e w' ⟨rfl, rfl⟩
  rw [HSum.out]
  go_wp2_with fail
  go_loopg [6, 50] 4 (fun r s6 s50 wr => ∃ (i u : Nat), Hid (i + r = 4) ∧ i ≤ 4 ∧ s50 = .int .i64 i ∧ s6 = .int .u32 u ∧ Hid (u = Fr.val ((l.drop 3).take i)) ∧ wr = w.alloc (.cells #[.int .i64 0, .int .i64 0, .int .i64 0] 35))
  case atStart => exact ⟨0, 0, by simp [Hid], by omega, rfl, rfl, by simp [Hid, Fr.val], rfl⟩
  case round =>
    obtain ⟨i, u, hi, hin, rfl, rfl, HU, rfl⟩ := hrel
    by_cases hlt' : i < 4
    · have hx := HCell.out (3 + i) (by omega)
      have hx2 : (w.alloc (.cells #[.int .i64 0, .int .i64 0, .int .i64 0] 35)).cell? ⟨b, off + 3 + i, none⟩ = some (.int .u8 (l.getD (3 + i) 0 : Nat)) := by
        rw [World.cell?_alloc_lt _ _ _ (by simpa using hbl), Nat.add_assoc]
        exact hx
      have lx := getD_lt256 HA.out.lt (3 + i)
      have hsn : (l.drop 3).take (i + 1) = (l.drop 3).take i ++ [l.getD (3 + i) 0] := by
        rw [take_snoc (by rw [List.length_drop]; omega)]
        congr 2
        simp [List.getD, List.getElem?_drop]
      have HSN := Lib.hid hsn; clear hsn hx
      have hub : u < 16777216 := by
        have h1 := Fr.val_lt ((l.drop 3).take i) (fun x hx => HA.out.lt x (List.mem_of_mem_drop (List.mem_of_mem_take hx)))
        rw [← show u = _ from HU.out] at h1
        have h2 : ((l.drop 3).take i).length ≤ 3 := by rw [List.length_take]; omega
        have h3 : 256 ^ ((l.drop 3).take i).length ≤ 256 ^ 3 := Nat.pow_le_pow_right (by omega) h2
        omega
      generalize l.getD (3 + i) 0 = x at hx2 lx HSN
      obtain ⟨u', hu'⟩ : ∃ u' : Nat, u' = u * 256 + x := ⟨_, rfl⟩
      have e1 : bits .or .u32 ((u : Int) * 256) (x : Int) = (u' : Int) := by
        have h1 := u32_or_nat (u * 256) x (by omega) (by omega)
        rw [or_byte u x lx, ← hu'] at h1
        rw [← h1]
        congr 1
      have HU' := Lib.hid hu'; clear hu'
      go_wp2_with fail
      go_roundg (gk - 1)
      case measure => have := hi.out; omega
      case rel =>
        refine ⟨i + 1, u', show i + 1 + (gk - 1) = 4 by have := hi.out; omega, by omega, by go_num, rfl, ?_, rfl⟩
        show u' = _
        rw [HSN.out, Fr.val_snoc, ← show u = _ from HU.out]
        exact HU'.out
    · obtain rfl : i = 4 := by omega
      have hub : u < 4294967296 := by rw [show u = _ from HU.out]; exact HVL.out
      have hub' : (u : Int) < 4294967296 := by omega
      clear hub
      have hsg : Fr.sgn 4 (Fr.val ((l.drop 3).take 4)) = (wrap32 (u : Int)) := by
        rw [← show u = _ from HU.out]
        unfold Fr.sgn wrap32
        simp only [true_and]; split <;> omega
      have HSG := Lib.hid hsg; clear hsg
      go_wp2_with ((go_at_call 38; refine (signed_yes (k : Int) _ (by omega)).mono ?_; rintro e w' ⟨rfl, rfl⟩))
      exact bodyPost_ret (v := gv ⟨k, q, (wrap32 (u : Int)), 0⟩) (by simp [results, Try.results24, go_sem, gv]; unfold wrap64 wrap32; omega) rfl ⟨by rw [HSG.out], bself2 _ _ _⟩

theorem get_any (a : Option Addr) (l : List Nat) (c : Nat) (w : World) (ha : RdB w a l) (hcl : l.length ≤ c) (hcm : c ≤ maxLen) (hm : l.length ≤ 1000000) :
    Calls Try.prog 24 #[.slice a l.length c] w fun e w' => e = .returned (gv (Fr.get l)) ∧ Below w.heap.size w w' := by
  by_cases h : l.length < 5
  · exact get_short a l c w ha h
  by_cases hk : Fr.sz (l.getD 0 0) = 0
  · exact get_kind a l c w ha (by omega) hm hk
  by_cases hf : l.getD 2 0 ≠ Fr.sz (l.getD 0 0) ∨ l.length ≠ 5 + Fr.sz (l.getD 0 0)
  · exact get_form a l c w ha (by omega) hm hk hf
  by_cases hs : Crc.sum l = 0
  · have hf' : l.getD 2 0 = Fr.sz (l.getD 0 0) ∧ l.length = 5 + Fr.sz (l.getD 0 0) := by omega
    rcases Fr.sz_cases ((l.getD 0 0 : Nat) : Int) with h2 | h2 | h2
    · exact absurd h2.1 hk
    · exact get_ok2 a l c w ha hcl hcm (by omega) h2.1 (by omega) hs
    · exact get_ok4 a l c w ha hcl hcm (by omega) h2.1 (by omega) hs
  · exact get_sum a l c w ha (by omega) hm hk hf hs

end Go.Proofs.Ytfaabjohlimnlaa
