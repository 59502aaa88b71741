/- The walk of the law CrcSeals. No condition. -/
import Derived.Test.YtfaabjohlimnlaaCs
import Derived.Test.YtfaabjohlimnlaaSe
import Derived.Test.YtfaabjohlimnlaaSt
namespace Go.Proofs.Ytfaabjohlimnlaa
open Go.ChangeShapes Go.WideShapes Go.RowKit
set_option linter.unusedVariables false
set_option linter.unusedSimpArgs false

theorem Crc.seal_sum {l : List Nat} : Crc.sum (Crc.seal_ l) = 0 := by
  have := (Crc.sum l).isLt
  exact (Crc.sum_zero l _ _ (by omega) (by omega)).2 (by omega)
theorem Crc.seal_len (l : List Nat) : (Crc.seal_ l).length = l.length + 2 := by simp [Crc.seal_]

/-- a seal is opened -/
theorem open_seal (a : Option Addr) (l : List Nat) (c : Nat) (w : World) (ha : RdB w a (Crc.seal_ l)) (hn : l.length ≤ 10000000000) :
    Calls Try.prog 20 #[.slice a (Crc.seal_ l).length c] w fun e w' => ∃ c, e = .returned (.tuple #[.slice (some ⟨w.heap.size, 0, none⟩) l.length c, .bool true]) ∧ Own w' w.heap.size (some ⟨w.heap.size, 0, none⟩) c l ∧ Below w.heap.size w w' := by
  refine (open_any a (Crc.seal_ l) c w ha (by rw [Crc.seal_len]; omega)).mono ?_
  rintro e w' ⟨hb, ⟨h, _⟩ | ⟨h, d, rfl, ho⟩⟩
  · exact absurd ⟨by rw [Crc.seal_len]; omega, Crc.seal_sum⟩ h
  · have e1 : (Crc.seal_ l).length - 2 = l.length := by rw [Crc.seal_len]; omega
    rw [e1] at ho ⊢
    have e2 : (Crc.seal_ l).take l.length = l := by simp [Crc.seal_]
    rw [e2] at ho
    exact ⟨d, rfl, ho, hb⟩

set_option maxHeartbeats 1000000 in
theorem seals_short (a : Option Addr) (l : List Nat) (c : Nat) (w : World) (ha : RdB w a l) (h1 : l.length ≤ 2000) (h2 : l.length < 2) :
    Calls Try.prog 5 #[.slice a l.length c] w fun e w' => e = .returned (.bool true) ∧ Below w.heap.size w w' := by
  have HA := Lib.hid ha; clear ha
  go_enter Try.func5, Try.ntmps5
  go_wp2_with fail
  refine (crcAnchor_any _).mono ?_
  rintro e w1 ⟨rfl, hb1⟩
  go_wp2_with fail
  refine (seal_any a l c _ (HA.out.below hb1) (by omega)).mono ?_
  rintro e w2 ⟨A, c2, rfl, ho2, hb2⟩
  have HO2 := Lib.hid ho2; clear ho2
  have HSl := Lib.hid (Crc.seal_len l)
  go_wp2_with fail
  refine (open_seal A l c2 _ HO2.out.rd (by omega)).mono ?_
  rintro e w3 ⟨c3, rfl, ho3, hb3⟩
  have hT2 := hb1.trans (hb2.mono hb1.size)
  have hT3 := hT2.trans (hb3.mono hT2.size)
  have k1 : ∀ n, (convert 22 9 (.slice (some ⟨w2.heap.size, 0, none⟩) l.length c3)).run Try.prog (w3.drewN n) = .ok (.string (str l)) (w3.drewN n) := fun n => conv_b (ho3.rd.drew n)
  have k2 : ∀ n, (convert 22 9 (.slice a l.length c)).run Try.prog (w3.drewN n) = .ok (.string (str l)) (w3.drewN n) := fun n => conv_b ((HA.out.below hT3).drew n)
  have hrd := HO2.out.below hb3
  have htk : (Crc.seal_ l).take l.length = l := by simp [Crc.seal_]
  have hrd2 := hrd.rd.take l.length
  rw [htk] at hrd2
  have k3 : ∀ n, (convert 22 9 (.slice A l.length c2)).run Try.prog (w3.drewN n) = .ok (.string (str l)) (w3.drewN n) := fun n => conv_b (hrd2.drew n)
  have hcap := HO2.out.cap
  have hcap1 : l.length ≤ c2 := by rw [Crc.seal_len] at hcap; omega
  have hcap2 : c2 ≤ maxLen := hcap.2
  clear htk hrd2 hrd hcap
  generalize hsl : (Crc.seal_ l).length = n2
  have hn2 : (n2 : Int) = (l.length : Int) + 2 := by have := HSl.out; omega
  clear hsl
  go_wp2_with fail
  go_quiet (fail)
  clear k1 k2 k3
  go_wp2_with fail
  refine (open_any a l c _ ((HA.out.below hT3).drew _) (by omega)).mono ?_
  rintro e w4 ⟨hb4, ⟨h, rfl⟩ | ⟨h, d, rfl, ho⟩⟩
  · go_wp2_with fail
    go_ret
    exact ⟨rfl, (bdN hT3 _).trans (hb4.mono hT3.size)⟩
  · exact absurd h.1 (by omega)

set_option maxHeartbeats 1000000 in
theorem seals_yes (a : Option Addr) (l : List Nat) (c : Nat) (w : World) (ha : RdB w a l) (hcl : l.length ≤ c) (hcm : c ≤ maxLen) (h1 : l.length ≤ 2000) (h2 : 2 ≤ l.length) (h3 : Crc.sum l = 0) :
    Calls Try.prog 5 #[.slice a l.length c] w fun e w' => e = .returned (.bool true) ∧ Below w.heap.size w w' := by
  obtain ⟨b, off, rfl, hbl, hcell⟩ := ha.at_ (by omega)
  have HA := Lib.hid ha; clear ha
  have HCell := Lib.hid hcell; clear hcell
  have HZ := Lib.hid h3; clear h3
  go_enter Try.func5, Try.ntmps5
  go_wp2_with fail
  refine (crcAnchor_any _).mono ?_
  rintro e w1 ⟨rfl, hb1⟩
  go_wp2_with fail
  refine (seal_any (some ⟨b, off, none⟩) l c _ (HA.out.below hb1) (by omega)).mono ?_
  rintro e w2 ⟨A, c2, rfl, ho2, hb2⟩
  have HO2 := Lib.hid ho2; clear ho2
  have HSl := Lib.hid (Crc.seal_len l)
  go_wp2_with fail
  refine (open_seal A l c2 _ HO2.out.rd (by omega)).mono ?_
  rintro e w3 ⟨c3, rfl, ho3, hb3⟩
  have hT2 := hb1.trans (hb2.mono hb1.size)
  have hT3 := hT2.trans (hb3.mono hT2.size)
  have k1 : ∀ n, (convert 22 9 (.slice (some ⟨w2.heap.size, 0, none⟩) l.length c3)).run Try.prog (w3.drewN n) = .ok (.string (str l)) (w3.drewN n) := fun n => conv_b (ho3.rd.drew n)
  have k2 : ∀ n, (convert 22 9 (.slice (some ⟨b, off, none⟩) l.length c)).run Try.prog (w3.drewN n) = .ok (.string (str l)) (w3.drewN n) := fun n => conv_b ((HA.out.below hT3).drew n)
  have hrd := HO2.out.below hb3
  have htk : (Crc.seal_ l).take l.length = l := by simp [Crc.seal_]
  have hrd2 := hrd.rd.take l.length
  rw [htk] at hrd2
  have k3 : ∀ n, (convert 22 9 (.slice A l.length c2)).run Try.prog (w3.drewN n) = .ok (.string (str l)) (w3.drewN n) := fun n => conv_b (hrd2.drew n)
  have hcap := HO2.out.cap
  have hcap1 : l.length ≤ c2 := by rw [Crc.seal_len] at hcap; omega
  have hcap2 : c2 ≤ maxLen := hcap.2
  clear htk hrd2 hrd hcap
  generalize hsl : (Crc.seal_ l).length = n2
  have hn2 : (n2 : Int) = (l.length : Int) + 2 := by have := HSl.out; omega
  clear hsl
  go_wp2_with fail
  go_quiet (fail)
  clear k1 k2 k3
  go_wp2_with fail
  refine (open_any (some ⟨b, off, none⟩) l c _ ((HA.out.below hT3).drew _) (by omega)).mono ?_
  rintro e w4 ⟨hb4, ⟨h, rfl⟩ | ⟨h, d, rfl, ho4⟩⟩
  · exact absurd ⟨h2, HZ.out⟩ h
  · clear h
    have l2 : (l.take (l.length - 2)).length = l.length - 2 := by simp
    have hT4 := (bdN hT3 nq).trans (hb4.mono hT3.size)
    obtain ⟨h, hh⟩ : ∃ h, h = l.getD (l.length - 2) 0 := ⟨_, rfl⟩
    obtain ⟨k, hk⟩ : ∃ k, k = l.getD (l.length - 1) 0 := ⟨_, rfl⟩
    have hh2 : h < 256 := by rw [hh]; exact getD_lt256 HA.out.lt _
    have hk2 : k < 256 := by rw [hk]; exact getD_lt256 HA.out.lt _
    have hsplit : l = l.take (l.length - 2) ++ [h, k] := by
      have e : l.drop (l.length - 2) = [h, k] := by
        apply List.ext_getElem?
        intro i
        rw [List.getElem?_drop]
        rcases i with _ | _ | i
        · rw [hh, List.getD, List.getElem?_eq_getElem (by omega : l.length - 2 + 0 < l.length)]; simp [List.getElem?_eq_getElem (by omega : l.length - 2 < l.length)]
        · rw [hk, List.getD, List.getElem?_eq_getElem (by omega : l.length - 2 + (0 + 1) < l.length)]; simp [List.getElem?_eq_getElem (by omega : l.length - 1 < l.length), show l.length - 2 + 1 = l.length - 1 by omega]
        · rw [List.getElem?_eq_none (by omega)]; rfl
      rw [← e, List.take_append_drop]
    have hzero : Crc.sum l = 0 ↔ (Crc.sum (l.take (l.length - 2))).toNat = h * 256 + k := by
      conv => lhs; rw [hsplit]
      exact Crc.sum_zero _ h k hh2 hk2
    have hc1 : w4.cell? ⟨b, off + (l.length - 2), none⟩ = some (.int .u8 (h : Int)) := by
      rw [hT4.cell (p := ⟨b, off + (l.length - 2), none⟩) hbl, HCell.out _ (by omega), hh]
    have hc2 : w4.cell? ⟨b, off + (l.length - 1), none⟩ = some (.int .u8 (k : Int)) := by
      rw [hT4.cell (p := ⟨b, off + (l.length - 1), none⟩) hbl, HCell.out _ (by omega), hk]
    have htr := (HA.out.below hT4).take (l.length - 2)
    have hlt : (l.take (l.length - 2)).length ≤ 1000000 := by omega
    have hR : ∀ j, Calls Try.prog 17 #[.slice (some ⟨b, off, none⟩) (l.length - 2) c] (w4.drewN j) fun e w' => e = .returned (.int .i64 ((Crc.sum (l.take (l.length - 2))).toNat : Int)) ∧ ∃ m, w' = (w4.drewN j).drewN m := fun j => by
      have := rsum_any (some ⟨b, off, none⟩) (l.take (l.length - 2)) c (w4.drewN j) (htr.drew j) hlt
      rw [l2] at this
      exact this
    have k6 : ∀ n, (convert 22 9 (.slice (some ⟨b, off, none⟩) (l.length - 2) c)).run Try.prog (w4.drewN n) = .ok (.string (str (l.take (l.length - 2)))) (w4.drewN n) := fun n => by
      have := conv_b (c := c) (htr.drew n)
      rw [l2] at this
      exact this
    have k5 : ∀ n, (convert 22 9 (.slice (some ⟨w3.heap.size, 0, none⟩) (l.length - 2) d)).run Try.prog (w4.drewN n) = .ok (.string (str (l.take (l.length - 2)))) (w4.drewN n) := fun n => by
      have := conv_b (ho4.rd.drew n) (c := d)
      rw [l2] at this
      exact this
    have hs2 := hzero.1 HZ.out
    generalize (Crc.sum (l.take (l.length - 2))).toNat = s2 at hR hs2
    have hE : ((s2 : Int) == (h : Int) * 256 + (k : Int)) = true := by simp; omega
    generalize str (l.take (l.length - 2)) = st at k5 k6
    have HR := Lib.hid hR
    have hT4' := Lib.hid hT4
    clear hzero hsplit htr hlt l2 hh hk hs2 hR hb4 ho4 hT4 hT3 hT2 hb1 hb2 hb3 ho3 hn2
    go_wp2_with fail
    go_quiet ((go_at_call 17; exact Calls.quiet_of (HR.out _)))
    go_wp2_with fail
    go_quiet (fail)
    go_wp2_with fail
    go_ret
    exact ⟨rfl, bdN (bdN hT4'.out _) _⟩

set_option maxHeartbeats 1000000 in
theorem seals_no (a : Option Addr) (l : List Nat) (c : Nat) (w : World) (ha : RdB w a l) (hcl : l.length ≤ c) (hcm : c ≤ maxLen) (h1 : l.length ≤ 2000) (h2 : 2 ≤ l.length) (h3 : ¬ Crc.sum l = 0) :
    Calls Try.prog 5 #[.slice a l.length c] w fun e w' => e = .returned (.bool true) ∧ Below w.heap.size w w' := by
  obtain ⟨b, off, rfl, hbl, hcell⟩ := ha.at_ (by omega)
  have HA := Lib.hid ha; clear ha
  have HCell := Lib.hid hcell; clear hcell
  have HZ := Lib.hid h3; clear h3
  go_enter Try.func5, Try.ntmps5
  go_wp2_with fail
  refine (crcAnchor_any _).mono ?_
  rintro e w1 ⟨rfl, hb1⟩
  go_wp2_with fail
  refine (seal_any (some ⟨b, off, none⟩) l c _ (HA.out.below hb1) (by omega)).mono ?_
  rintro e w2 ⟨A, c2, rfl, ho2, hb2⟩
  have HO2 := Lib.hid ho2; clear ho2
  have HSl := Lib.hid (Crc.seal_len l)
  go_wp2_with fail
  refine (open_seal A l c2 _ HO2.out.rd (by omega)).mono ?_
  rintro e w3 ⟨c3, rfl, ho3, hb3⟩
  have hT2 := hb1.trans (hb2.mono hb1.size)
  have hT3 := hT2.trans (hb3.mono hT2.size)
  have k1 : ∀ n, (convert 22 9 (.slice (some ⟨w2.heap.size, 0, none⟩) l.length c3)).run Try.prog (w3.drewN n) = .ok (.string (str l)) (w3.drewN n) := fun n => conv_b (ho3.rd.drew n)
  have k2 : ∀ n, (convert 22 9 (.slice (some ⟨b, off, none⟩) l.length c)).run Try.prog (w3.drewN n) = .ok (.string (str l)) (w3.drewN n) := fun n => conv_b ((HA.out.below hT3).drew n)
  have hrd := HO2.out.below hb3
  have htk : (Crc.seal_ l).take l.length = l := by simp [Crc.seal_]
  have hrd2 := hrd.rd.take l.length
  rw [htk] at hrd2
  have k3 : ∀ n, (convert 22 9 (.slice A l.length c2)).run Try.prog (w3.drewN n) = .ok (.string (str l)) (w3.drewN n) := fun n => conv_b (hrd2.drew n)
  have hcap := HO2.out.cap
  have hcap1 : l.length ≤ c2 := by rw [Crc.seal_len] at hcap; omega
  have hcap2 : c2 ≤ maxLen := hcap.2
  clear htk hrd2 hrd hcap
  generalize hsl : (Crc.seal_ l).length = n2
  have hn2 : (n2 : Int) = (l.length : Int) + 2 := by have := HSl.out; omega
  clear hsl
  go_wp2_with fail
  go_quiet (fail)
  clear k1 k2 k3
  go_wp2_with fail
  refine (open_any (some ⟨b, off, none⟩) l c _ ((HA.out.below hT3).drew _) (by omega)).mono ?_
  rintro e w4 ⟨hb4, ⟨h, rfl⟩ | ⟨h, d, rfl, ho4⟩⟩
  · clear h
    have l2 : (l.take (l.length - 2)).length = l.length - 2 := by simp
    have hT4 := (bdN hT3 nq).trans (hb4.mono hT3.size)
    obtain ⟨h, hh⟩ : ∃ h, h = l.getD (l.length - 2) 0 := ⟨_, rfl⟩
    obtain ⟨k, hk⟩ : ∃ k, k = l.getD (l.length - 1) 0 := ⟨_, rfl⟩
    have hh2 : h < 256 := by rw [hh]; exact getD_lt256 HA.out.lt _
    have hk2 : k < 256 := by rw [hk]; exact getD_lt256 HA.out.lt _
    have hsplit : l = l.take (l.length - 2) ++ [h, k] := by
      have e : l.drop (l.length - 2) = [h, k] := by
        apply List.ext_getElem?
        intro i
        rw [List.getElem?_drop]
        rcases i with _ | _ | i
        · rw [hh, List.getD, List.getElem?_eq_getElem (by omega : l.length - 2 + 0 < l.length)]; simp [List.getElem?_eq_getElem (by omega : l.length - 2 < l.length)]
        · rw [hk, List.getD, List.getElem?_eq_getElem (by omega : l.length - 2 + (0 + 1) < l.length)]; simp [List.getElem?_eq_getElem (by omega : l.length - 1 < l.length), show l.length - 2 + 1 = l.length - 1 by omega]
        · rw [List.getElem?_eq_none (by omega)]; rfl
      rw [← e, List.take_append_drop]
    have hzero : Crc.sum l = 0 ↔ (Crc.sum (l.take (l.length - 2))).toNat = h * 256 + k := by
      conv => lhs; rw [hsplit]
      exact Crc.sum_zero _ h k hh2 hk2
    have hc1 : w4.cell? ⟨b, off + (l.length - 2), none⟩ = some (.int .u8 (h : Int)) := by
      rw [hT4.cell (p := ⟨b, off + (l.length - 2), none⟩) hbl, HCell.out _ (by omega), hh]
    have hc2 : w4.cell? ⟨b, off + (l.length - 1), none⟩ = some (.int .u8 (k : Int)) := by
      rw [hT4.cell (p := ⟨b, off + (l.length - 1), none⟩) hbl, HCell.out _ (by omega), hk]
    have htr := (HA.out.below hT4).take (l.length - 2)
    have hlt : (l.take (l.length - 2)).length ≤ 1000000 := by omega
    have hR : ∀ j, Calls Try.prog 17 #[.slice (some ⟨b, off, none⟩) (l.length - 2) c] (w4.drewN j) fun e w' => e = .returned (.int .i64 ((Crc.sum (l.take (l.length - 2))).toNat : Int)) ∧ ∃ m, w' = (w4.drewN j).drewN m := fun j => by
      have := rsum_any (some ⟨b, off, none⟩) (l.take (l.length - 2)) c (w4.drewN j) (htr.drew j) hlt
      rw [l2] at this
      exact this
    have k6 : ∀ n, (convert 22 9 (.slice (some ⟨b, off, none⟩) (l.length - 2) c)).run Try.prog (w4.drewN n) = .ok (.string (str (l.take (l.length - 2)))) (w4.drewN n) := fun n => by
      have := conv_b (c := c) (htr.drew n)
      rw [l2] at this
      exact this
    have hs2 : ¬ (Crc.sum (l.take (l.length - 2))).toNat = h * 256 + k := fun e => HZ.out (hzero.2 e)
    generalize (Crc.sum (l.take (l.length - 2))).toNat = s2 at hR hs2
    have hE : ((s2 : Int) == (h : Int) * 256 + (k : Int)) = false := by simp; omega
    generalize str (l.take (l.length - 2)) = st at k6
    have HR := Lib.hid hR
    have hT4' := Lib.hid hT4
    clear hzero hsplit htr hlt l2 hh hk hs2 hR hb4 hT4 hT3 hT2 hb1 hb2 hb3 ho3 hn2
    go_wp2_with fail
    go_quiet ((go_at_call 17; exact Calls.quiet_of (HR.out _)))
    go_wp2_with fail
    go_quiet (fail)
    go_wp2_with fail
    go_ret
    exact ⟨rfl, bdN (bdN hT4'.out _) _⟩
  · exact absurd h.2 HZ.out

theorem seals_long (a : Option Addr) (n c : Nat) (w : World) (h : 2000 < n) :
    Calls Try.prog 5 #[.slice a n c] w fun e w' => e = .returned (.bool true) ∧ Below w.heap.size w w' := by
  go_enter Try.func5, Try.ntmps5
  go_wp2_with fail
  refine (crcAnchor_any _).mono ?_
  rintro e w1 ⟨rfl, hb1⟩
  go_wp2_with fail
  go_ret
  exact ⟨rfl, hb1⟩

theorem seals_walk (a : Option Addr) (l : List Nat) (c : Nat) (w : World) (ha : RdB w a l) (hcl : l.length ≤ c) (hcm : c ≤ maxLen) :
    Calls Try.prog 5 #[.slice a l.length c] w fun e w' => e = .returned (.bool true) ∧ Below w.heap.size w w' := by
  by_cases h : 2000 < l.length
  · exact seals_long a l.length c w h
  · by_cases h2 : l.length < 2
    · exact seals_short a l c w ha (by omega) h2
    · by_cases h3 : Crc.sum l = 0
      · exact seals_yes a l c w ha hcl hcm (by omega) (by omega) h3
      · exact seals_no a l c w ha hcl hcm (by omega) (by omega) h3

end Go.Proofs.Ytfaabjohlimnlaa
