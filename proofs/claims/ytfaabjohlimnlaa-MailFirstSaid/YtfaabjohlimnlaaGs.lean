/- The walk of the reference's Get of frames: the sum and the value. No condition. -/
import Derived.Test.YtfaabjohlimnlaaGr
namespace Go.Proofs.Ytfaabjohlimnlaa
open Go.ChangeShapes Go.WideShapes Go.RowKit Go.Sort
set_option linter.unusedVariables false
set_option linter.unusedSimpArgs false

theorem two_end {l : List Nat} {n : Nat} (hl : l.length = 5 + n) : l = l.take (3 + n) ++ [l.getD (3 + n) 0, l.getD (4 + n) 0] := by
  apply List.ext_getElem?
  intro i
  by_cases h : i < 3 + n
  · rw [List.getElem?_append_left (by rw [List.length_take]; omega), List.getElem?_take, if_pos h]
  · rw [List.getElem?_append_right (by rw [List.length_take]; omega), List.length_take, Nat.min_eq_left (by omega)]
    by_cases h1 : i = 3 + n
    · subst h1; simp [List.getD, List.getElem?_eq_getElem (show 3 + n < l.length by omega)]
    by_cases h2 : i = 4 + n
    · subst h2
      have e : 4 + n - (3 + n) = 1 := by omega
      rw [e]; simp [List.getD, List.getElem?_eq_getElem (show 4 + n < l.length by omega)]
    · rw [List.getElem?_eq_none (by omega), List.getElem?_eq_none (by simp; omega)]

set_option maxHeartbeats 1000000 in
theorem rget_sum (a : Option Addr) (l : List Nat) (c : Nat) (w : World) (ha : RdB w a l) (hcl : l.length ≤ c) (hcm : c ≤ maxLen) (hm : l.length ≤ 1000000) (n : Nat) (hn : n = 2 ∨ n = 4) (hk : Fr.sz (l.getD 0 0) = n) (h2 : l.getD 2 0 = n) (h3 : l.length = 5 + n) (hs : Crc.sum l ≠ 0) :
    Calls Try.prog 25 #[.slice a l.length c] w fun e w' => e = .returned (gv (Fr.get l)) ∧ Below w.heap.size w w' := by
  have hg : Fr.get l = ⟨0, 0, 0, 31⟩ := by unfold Fr.get; rw [if_neg (by omega), if_neg (by omega), if_neg (by omega), if_pos hs]
  rw [hg]
  clear hg
  have hte := two_end h3
  have hss : (Crc.sum (l.take (3 + n))).toNat ≠ l.getD (3 + n) 0 * 256 + l.getD (4 + n) 0 := by
    intro h
    apply hs
    rw [hte]
    exact (Crc.sum_zero _ _ _ (getD_lt256 ha.lt _) (getD_lt256 ha.lt _)).2 h
  clear hte
  have HA := Lib.hid ha
  obtain ⟨b, off, rfl, hbl, hcell⟩ := ha.at_ (by omega)
  have hc0 := hcell 0 (by omega)
  have hc2 := hcell 2 (by omega)
  have hc3 := hcell (3 + n) (by omega)
  have hc4 := hcell (4 + n) (by omega)
  rw [Nat.add_zero] at hc0
  have hS : ∀ w, Calls Try.prog 37 #[.int .i64 ((l.getD 0 0 : Nat) : Int)] w fun e w' => e = .returned (.int .i64 (n : Int)) ∧ Below w.heap.size w w' := fun w => by
    have := rsize_any ((l.getD 0 0 : Nat) : Int) w
    rw [hk] at this
    exact this
  have hlt := getD_lt256 ha.lt 0
  have hlt2 := getD_lt256 ha.lt 2
  have hlt3 := getD_lt256 ha.lt (3 + n)
  have hlt4 := getD_lt256 ha.lt (4 + n)
  have hlen : (l.take (3 + n)).length = 3 + n := by rw [List.length_take]; omega
  have hT : ∀ (w' : World) (hb : Below w.heap.size w w') , Calls Try.prog 17 #[.slice (some ⟨b, off, none⟩) (3 + n) c] w' fun e w2 => e = .returned (.int .i64 ((Crc.sum (l.take (3 + n))).toNat : Int)) ∧ Below w'.heap.size w' w2 := fun w' hb => by
    have := rsum_any _ (l.take (3 + n)) c w' ((HA.out.below hb).take _) (by omega)
    rw [hlen] at this
    exact this.mono fun e w2 ⟨h, k, hk⟩ => ⟨h, hk ▸ bdN (Below.refl _ _) k⟩
  rw [h2] at hc2
  have hSl : (Crc.sum (l.take (3 + n))).toNat < 65536 := (Crc.sum (l.take (3 + n))).isLt
  generalize (Crc.sum (l.take (3 + n))).toNat = S at hss hT hSl
  generalize l.getD (3 + n) 0 = x at hc3 hss hlt3
  generalize l.getD (4 + n) 0 = y at hc4 hss hlt4
  generalize l.getD 0 0 = k at hc0 hS hlt
  have hn0 : ((n : Int) == 0) = false := by simp; omega
  have d3 : ((S : Int) != (x : Int) * 256 + (y : Int)) = true := by simp; omega
  have hS5 : S < 65536 := hSl
  have d1 : ((l.length : Int) != 5 + (n : Int)) = false := by simp; omega
  have hh : l.length = 5 + n := h3
  have HS := Lib.hid hS
  have HT := Lib.hid hT
  clear hS hT hcell hk ha hs hlt2 h2
  go_enter Try.func25, Try.ntmps25
  go_wp2_with fail
  refine (HS.out _).mono ?_
  rintro e w1 ⟨rfl, hb1⟩
  have hb0 := on_past (bself _ _) hb1
  obtain ⟨hc, hz, hl⟩ := bcell hb1
  obtain ⟨q0, q1, q2⟩ := after3 hb1
  have zw10 : w.heap.size < w1.heap.size := by have := hb1.size; simp at this; omega
  clear hc
  have hc2' := (Below.cell (p := ⟨b, off + 2, none⟩) hb0 hbl).trans hc2
  have hc3' := (Below.cell (p := ⟨b, off + (3 + n), none⟩) hb0 hbl).trans hc3
  have hc4' := (Below.cell (p := ⟨b, off + (4 + n), none⟩) hb0 hbl).trans hc4
  clear hc0 hc2 hc3 hc4
  go_wp2_with fail
  have zb : b < w1.heap.size := Nat.lt_of_lt_of_le hbl hb0.size
  have HT2 := Lib.hid (fun d os => HT.out (grow (redrawn w1 d) os) (on_past hb0 (below_regrown w1 d os)))
  clear HT HA
  refine wp_region_past (by kernel_rfl) (by kernel_rfl) (fun hG => ?_)
  repeat (go_big_quiet_step ((go_at_call 17; exact Calls.regrown_of (HT2.out _ _))))
  refine wpQuiet_nil ?_
  intro w3 hb3
  clear hG
  have r0 := (Below.cell (p := ⟨w.heap.size, 0, none⟩) hb3 zw10).trans q0
  have r1 := (Below.cell (p := ⟨w.heap.size, 1, none⟩) hb3 zw10).trans q1
  have r2 := (Below.cell (p := ⟨w.heap.size, 2, none⟩) hb3 zw10).trans q2
  have rz : ∀ o, w3.frozen? ⟨w.heap.size, o, none⟩ = false := fun o => ((bcell hb3).2.1 _ _ zw10).trans ((hz _ _ (by simp)).trans (by simp))
  have zw30 : w.heap.size < w3.heap.size := Nat.lt_of_lt_of_le zw10 hb3.size
  have hb4 := on_past hb0 hb3
  clear q0 q1 q2 hz hl
  go_wp2_with fail
  obtain ⟨wz, ez, hbz, c0, c1, c2⟩ := store3 hb4 (Nat.le_refl _) r0 r1 r2 (.int .i64 0) (.int .i64 0) (.int .i64 0)
  rw [← ez]
  clear ez
  exact bodyPost_ret (v := gv ⟨0, 0, 0, 31⟩) (by simp [results, Try.results25, go_sem, gv, c0, c1, c2]) rfl ⟨rfl, hbz⟩


set_option maxRecDepth 100000 in
set_option maxHeartbeats 2000000 in
theorem rget_ok (a : Option Addr) (l : List Nat) (c : Nat) (w : World) (ha : RdB w a l) (hcl : l.length ≤ c) (hcm : c ≤ maxLen) (hm : l.length ≤ 1000000) (n : Nat) (hn : n = 2 ∨ n = 4) (hk : Fr.sz (l.getD 0 0) = n) (h2 : l.getD 2 0 = n) (h3 : l.length = 5 + n) (hs : Crc.sum l = 0) :
    Calls Try.prog 25 #[.slice a l.length c] w fun e w' => e = .returned (gv (Fr.get l)) ∧ Below w.heap.size w w' := by
  have hg : Fr.get l = ⟨l.getD 0 0, l.getD 1 0, Fr.sgn n (Fr.val ((l.drop 3).take n)), 0⟩ := by unfold Fr.get; rw [if_neg (by omega), if_neg (by omega), if_neg (by omega), if_neg (by simp [hs]), hk]
  rw [hg]
  clear hg
  have hte := two_end h3
  have hss : (Crc.sum (l.take (3 + n))).toNat = l.getD (3 + n) 0 * 256 + l.getD (4 + n) 0 := by
    rw [hte] at hs
    exact (Crc.sum_zero _ _ _ (getD_lt256 ha.lt _) (getD_lt256 ha.lt _)).1 hs
  clear hte
  have HA := Lib.hid ha
  obtain ⟨b, off, rfl, hbl, hcell⟩ := ha.at_ (by omega)
  have hc0 := hcell 0 (by omega)
  have hc1 := hcell 1 (by omega)
  have hc2 := hcell 2 (by omega)
  have HCell := Lib.hid hcell
  have hlt1 := getD_lt256 ha.lt 1
  have hc3 := hcell (3 + n) (by omega)
  have hc4 := hcell (4 + n) (by omega)
  rw [Nat.add_zero] at hc0
  have hS : ∀ w, Calls Try.prog 37 #[.int .i64 ((l.getD 0 0 : Nat) : Int)] w fun e w' => e = .returned (.int .i64 (n : Int)) ∧ Below w.heap.size w w' := fun w => by
    have := rsize_any ((l.getD 0 0 : Nat) : Int) w
    rw [hk] at this
    exact this
  have hlt := getD_lt256 ha.lt 0
  have hlt2 := getD_lt256 ha.lt 2
  have hlt3 := getD_lt256 ha.lt (3 + n)
  have hlt4 := getD_lt256 ha.lt (4 + n)
  have hlen : (l.take (3 + n)).length = 3 + n := by rw [List.length_take]; omega
  have hT : ∀ (w' : World) (hb : Below w.heap.size w w') , Calls Try.prog 17 #[.slice (some ⟨b, off, none⟩) (3 + n) c] w' fun e w2 => e = .returned (.int .i64 ((Crc.sum (l.take (3 + n))).toNat : Int)) ∧ Below w'.heap.size w' w2 := fun w' hb => by
    have := rsum_any _ (l.take (3 + n)) c w' ((HA.out.below hb).take _) (by omega)
    rw [hlen] at this
    exact this.mono fun e w2 ⟨h, k, hk⟩ => ⟨h, hk ▸ bdN (Below.refl _ _) k⟩
  rw [h2] at hc2
  have hSl : (Crc.sum (l.take (3 + n))).toNat < 65536 := (Crc.sum (l.take (3 + n))).isLt
  generalize (Crc.sum (l.take (3 + n))).toNat = S at hss hT hSl
  generalize l.getD (3 + n) 0 = x at hc3 hss hlt3
  generalize l.getD (4 + n) 0 = y at hc4 hss hlt4
  generalize l.getD 1 0 = q at hc1 hlt1
  generalize l.getD 0 0 = k at hc0 hS hlt
  have hn0 : ((n : Int) == 0) = false := by simp; omega
  have d3 : ((S : Int) != (x : Int) * 256 + (y : Int)) = false := by simp; omega
  have hS5 : S < 65536 := hSl
  have d1 : ((l.length : Int) != 5 + (n : Int)) = false := by simp; omega
  have hh : l.length = 5 + n := h3
  have HS := Lib.hid hS
  have HT := Lib.hid hT
  clear hS hT hcell hk ha hs hlt2 h2
  go_enter Try.func25, Try.ntmps25
  go_wp2_with fail
  refine (HS.out _).mono ?_
  rintro e w1 ⟨rfl, hb1⟩
  have hb0 := on_past (bself _ _) hb1
  obtain ⟨hc, hz, hl⟩ := bcell hb1
  obtain ⟨q0, q1, q2⟩ := after3 hb1
  have zw10 : w.heap.size < w1.heap.size := by have := hb1.size; simp at this; omega
  clear hc
  have hc2' := (Below.cell (p := ⟨b, off + 2, none⟩) hb0 hbl).trans hc2
  have hc3' := (Below.cell (p := ⟨b, off + (3 + n), none⟩) hb0 hbl).trans hc3
  have hc4' := (Below.cell (p := ⟨b, off + (4 + n), none⟩) hb0 hbl).trans hc4
  have hc0' := (Below.cell (p := ⟨b, off, none⟩) hb0 hbl).trans hc0
  have hc1' := (Below.cell (p := ⟨b, off + 1, none⟩) hb0 hbl).trans hc1
  have HC0 := Lib.hid hc0'
  have HC1 := Lib.hid hc1'
  clear hc0 hc1 hc0' hc1' hc2 hc3 hc4
  go_wp2_with fail
  have zb : b < w1.heap.size := Nat.lt_of_lt_of_le hbl hb0.size
  have HT2 := Lib.hid (fun d os => HT.out (grow (redrawn w1 d) os) (on_past hb0 (below_regrown w1 d os)))
  clear HT
  refine wp_region_past (by kernel_rfl) (by kernel_rfl) (fun hG => ?_)
  repeat (go_big_quiet_step ((go_at_call 17; exact Calls.regrown_of (HT2.out _ _))))
  refine wpQuiet_nil ?_
  intro w3 hb3
  clear hG
  have r0 := (Below.cell (p := ⟨w.heap.size, 0, none⟩) hb3 zw10).trans q0
  have r1 := (Below.cell (p := ⟨w.heap.size, 1, none⟩) hb3 zw10).trans q1
  have r2 := (Below.cell (p := ⟨w.heap.size, 2, none⟩) hb3 zw10).trans q2
  have rz : ∀ o, w3.frozen? ⟨w.heap.size, o, none⟩ = false := fun o => ((bcell hb3).2.1 _ _ zw10).trans ((hz _ _ (by simp)).trans (by simp))
  have zw30 : w.heap.size < w3.heap.size := Nat.lt_of_lt_of_le zw10 hb3.size
  have hb4 := on_past hb0 hb3
  clear q0 q1 q2 hz hl
  go_wp2_with fail
  have k0 := (Below.cell (p := ⟨b, off, none⟩) hb3 zb).trans HC0.out
  have k1 := (Below.cell (p := ⟨b, off + 1, none⟩) hb3 zb).trans HC1.out
  have zb3 : b < w3.heap.size := Nat.lt_of_lt_of_le zb hb3.size
  clear hc2' hc3' hc4' d3
  have hltd : ∀ x ∈ (l.drop 3).take n, x < 256 := fun x hx => HA.out.lt x (List.mem_of_mem_drop (List.mem_of_mem_take hx))
  have hvl := Fr.val_lt ((l.drop 3).take n) hltd
  rw [show ((l.drop 3).take n).length = n by rw [List.length_take, List.length_drop]; omega] at hvl
  have HVL := Lib.hid hvl; clear hvl hltd
  have hlen5 := Lib.hid h3
  have hl5 : l.length = 5 + n := h3
  clear hh
  go_loopg [5, 6] n (fun r s5 s6 wr => ∃ (i u : Nat), Hid (i + r = n) ∧ i ≤ n ∧ s6 = .int .i64 (3 + (i : Int)) ∧ s5 = .int .i64 u ∧ Hid (u = Fr.val ((l.drop 3).take i)) ∧ wr = w3)
  case atStart => exact ⟨0, 0, by simp [Hid], by omega, rfl, rfl, by simp [Hid, Fr.val], rfl⟩
  case round =>
    obtain ⟨i, u, hi, hin, rfl, rfl, HU, rfl⟩ := hrel
    by_cases hlt' : i < n
    · have hx2 := (Below.cell (p := ⟨b, off + (3 + i), none⟩) hb4 hbl).trans (HCell.out (3 + i) (by omega))
      have lx := getD_lt256 HA.out.lt (3 + i)
      have hsn : (l.drop 3).take (i + 1) = (l.drop 3).take i ++ [l.getD (3 + i) 0] := by
        rw [take_snoc (by rw [List.length_drop]; omega)]
        congr 2
        simp [List.getD, List.getElem?_drop]
      have HSN := Lib.hid hsn; clear hsn
      have hub : u < 16777216 := by
        have h1 := Fr.val_lt ((l.drop 3).take i) (fun x hx => HA.out.lt x (List.mem_of_mem_drop (List.mem_of_mem_take hx)))
        rw [← show u = _ from HU.out] at h1
        have h2 : ((l.drop 3).take i).length ≤ 3 := by rw [List.length_take]; omega
        have h3 : 256 ^ ((l.drop 3).take i).length ≤ 256 ^ 3 := Nat.pow_le_pow_right (by omega) h2
        omega
      have hub' : (u : Int) < 16777216 := by omega
      clear hub
      generalize l.getD (3 + i) 0 = x' at hx2 lx HSN
      go_wp2_with fail
      go_roundg (gk - 1)
      case measure => have := hi.out; omega
      case rel =>
        refine ⟨i + 1, u * 256 + x', show i + 1 + (gk - 1) = n by have := hi.out; omega, by omega, by go_num, by go_num, ?_, rfl⟩
        show u * 256 + x' = _
        rw [HSN.out, Fr.val_snoc, ← show u = _ from HU.out]
    · obtain rfl : i = n := by omega
      have hub : u < 256 ^ i := by rw [show u = _ from HU.out]; exact HVL.out
      have hub' : (u : Int) < 4294967296 := by rcases hn with rfl | rfl <;> omega
      clear hub hS5 hSl hss
      have HM := Lib.hid hm
      clear hm hcm
      by_cases h4 : i = 4
      · have g1 : ((i : Int) == 4) = true := by simp; omega
        by_cases hg : (2147483648 : Int) ≤ (u : Int)
        · have hsg : Fr.sgn i (Fr.val ((l.drop 3).take i)) = (u : Int) - 4294967296 := by
            rw [← show u = _ from HU.out]
            unfold Fr.sgn
            rw [if_pos ⟨h4, by omega⟩]
          have HSG := Lib.hid hsg
          clear hsg h4
          go_wp2_with fail
          refine wp_region_past_tail 10 (by kernel_rfl) (by kernel_rfl) (fun hG => ?_)
          simp only [List.take_succ_cons, List.take_zero, List.drop_succ_cons, List.drop_zero]
          repeat (go_big_quiet_step (fail))
          refine wpQuiet_nil ?_
          intro w4 hb5
          clear hG
          have s0 := (Below.cell (p := ⟨w.heap.size, 0, none⟩) hb5 zw30).trans r0
          have s1 := (Below.cell (p := ⟨w.heap.size, 1, none⟩) hb5 zw30).trans r1
          have s2 := (Below.cell (p := ⟨w.heap.size, 2, none⟩) hb5 zw30).trans r2
          have sz' : ∀ o, w4.frozen? ⟨w.heap.size, o, none⟩ = false := fun o => ((bcell hb5).2.1 _ _ zw30).trans (rz o)
          have hb6 := on_past hb4 hb5
          clear r0 r1 r2 rz
          go_wp2_with fail
          obtain ⟨wz, ez, hbz, c0, c1, c2⟩ := store3 hb6 (Nat.le_refl _) s0 s1 s2 (.int .i64 k) (.int .i64 q) (.int .i64 ((u : Int) - 4294967296))
          rw [← ez]
          clear ez
          exact bodyPost_ret (v := gv ⟨k, q, (u : Int) - 4294967296, 0⟩) (by simp [results, Try.results25, go_sem, gv, c0, c1, c2]) rfl ⟨by rw [HSG.out], hbz⟩
        · have hsg : Fr.sgn i (Fr.val ((l.drop 3).take i)) = (u : Int) := by
            rw [← show u = _ from HU.out]
            unfold Fr.sgn
            rw [if_neg (by omega)]
          have HSG := Lib.hid hsg
          clear hsg h4
          go_wp2_with fail
          refine wp_region_past_tail 10 (by kernel_rfl) (by kernel_rfl) (fun hG => ?_)
          simp only [List.take_succ_cons, List.take_zero, List.drop_succ_cons, List.drop_zero]
          repeat (go_big_quiet_step (fail))
          refine wpQuiet_nil ?_
          intro w4 hb5
          clear hG
          have s0 := (Below.cell (p := ⟨w.heap.size, 0, none⟩) hb5 zw30).trans r0
          have s1 := (Below.cell (p := ⟨w.heap.size, 1, none⟩) hb5 zw30).trans r1
          have s2 := (Below.cell (p := ⟨w.heap.size, 2, none⟩) hb5 zw30).trans r2
          have sz' : ∀ o, w4.frozen? ⟨w.heap.size, o, none⟩ = false := fun o => ((bcell hb5).2.1 _ _ zw30).trans (rz o)
          have hb6 := on_past hb4 hb5
          clear r0 r1 r2 rz
          go_wp2_with fail
          obtain ⟨wz, ez, hbz, c0, c1, c2⟩ := store3 hb6 (Nat.le_refl _) s0 s1 s2 (.int .i64 k) (.int .i64 q) (.int .i64 ((u : Int)))
          rw [← ez]
          clear ez
          exact bodyPost_ret (v := gv ⟨k, q, (u : Int), 0⟩) (by simp [results, Try.results25, go_sem, gv, c0, c1, c2]) rfl ⟨by rw [HSG.out], hbz⟩
      · have hsg : Fr.sgn i (Fr.val ((l.drop 3).take i)) = (u : Int) := by
          rw [← show u = _ from HU.out]
          unfold Fr.sgn
          rw [if_neg (by omega)]
        have g1 : ((i : Int) == 4) = false := by simp; omega
        have HSG := Lib.hid hsg
        clear hsg h4
        go_wp2_with fail
        refine wp_region_past_tail 10 (by kernel_rfl) (by kernel_rfl) (fun hG => ?_)
        simp only [List.take_succ_cons, List.take_zero, List.drop_succ_cons, List.drop_zero]
        repeat (go_big_quiet_step (fail))
        refine wpQuiet_nil ?_
        intro w4 hb5
        clear hG
        have s0 := (Below.cell (p := ⟨w.heap.size, 0, none⟩) hb5 zw30).trans r0
        have s1 := (Below.cell (p := ⟨w.heap.size, 1, none⟩) hb5 zw30).trans r1
        have s2 := (Below.cell (p := ⟨w.heap.size, 2, none⟩) hb5 zw30).trans r2
        have sz' : ∀ o, w4.frozen? ⟨w.heap.size, o, none⟩ = false := fun o => ((bcell hb5).2.1 _ _ zw30).trans (rz o)
        have hb6 := on_past hb4 hb5
        clear r0 r1 r2 rz
        go_wp2_with fail
        obtain ⟨wz, ez, hbz, c0, c1, c2⟩ := store3 hb6 (Nat.le_refl _) s0 s1 s2 (.int .i64 k) (.int .i64 q) (.int .i64 ((u : Int)))
        rw [← ez]
        clear ez
        exact bodyPost_ret (v := gv ⟨k, q, (u : Int), 0⟩) (by simp [results, Try.results25, go_sem, gv, c0, c1, c2]) rfl ⟨by rw [HSG.out], hbz⟩

theorem rget_any (a : Option Addr) (l : List Nat) (c : Nat) (w : World) (ha : RdB w a l) (hcl : l.length ≤ c) (hcm : c ≤ maxLen) (hm : l.length ≤ 1000000) :
    Calls Try.prog 25 #[.slice a l.length c] w fun e w' => e = .returned (gv (Fr.get l)) ∧ Below w.heap.size w w' := by
  by_cases h : l.length < 5
  · exact rget_short a l c w ha h
  by_cases hk : Fr.sz (l.getD 0 0) = 0
  · exact rget_kind a l c w ha (by omega) hm hk
  by_cases hf : l.getD 2 0 ≠ Fr.sz (l.getD 0 0) ∨ l.length ≠ 5 + Fr.sz (l.getD 0 0)
  · exact rget_form a l c w ha (by omega) hm hk hf
  have hn : Fr.sz (l.getD 0 0) = 2 ∨ Fr.sz (l.getD 0 0) = 4 := by
    rcases Fr.sz_cases ((l.getD 0 0 : Nat) : Int) with h2 | h2 | h2
    · exact absurd h2.1 hk
    · exact .inl h2.1
    · exact .inr h2.1
  by_cases hs : Crc.sum l = 0
  · exact rget_ok a l c w ha hcl hcm hm _ hn rfl (by omega) (by omega) hs
  · exact rget_sum a l c w ha hcl hcm hm _ hn rfl (by omega) (by omega) hs

end Go.Proofs.Ytfaabjohlimnlaa
