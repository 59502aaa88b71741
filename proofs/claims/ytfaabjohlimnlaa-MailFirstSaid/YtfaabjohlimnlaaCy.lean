/- The walk of the reference's division. No condition. -/
import Derived.Test.YtfaabjohlimnlaaCx
import Derived.Deep.DeepCutAuto
namespace Go.Proofs.Ytfaabjohlimnlaa
open Go.ChangeShapes Go.WideShapes Go.RowKit
set_option linter.unusedVariables false
set_option linter.unusedSimpArgs false

namespace Crc
/-- the bits that are divided: the first 16 are turned -/
def inBit (l : List Nat) (i : Nat) : Bool := if i < 16 then !bitOf l i else bitOf l i
def num (b : Bool) : Nat := if b then 1 else 0
theorem even_xor (x : Nat) (b : Bool) : 2 * x ^^^ num b = 2 * x + num b := by
  cases b
  · simp [num]
  · have h := Nat.two_pow_add_eq_or_of_lt (i := 1) (b := 1) (by decide) x
    rw [show (2 : Nat) ^ 1 = 2 by rfl] at h
    show 2 * x ^^^ 1 = 2 * x + 1
    rw [h]
    apply Nat.eq_of_testBit_eq
    intro i
    rw [Nat.testBit_xor, Nat.testBit_or]
    cases i with
    | zero => simp
    | succ i => simp [Nat.testBit_succ]
theorem sh_bit (x : V) (b : Bool) : (x <<< 1 ^^^ bit b).toNat = 2 * x.toNat % 65536 + num b := by
  rw [BitVec.toNat_xor, BitVec.toNat_shiftLeft, Nat.shiftLeft_eq]
  have e : (bit b).toNat = num b := by cases b <;> rfl
  rw [e, show x.toNat * 2 ^ 1 % 2 ^ 16 = 2 * (x.toNat % 32768) by omega, even_xor]
  omega
theorem astp_lo (x : V) (b : Bool) (h : ¬ 65536 ≤ 2 * x.toNat + num b) : (astp x b).toNat = 2 * x.toNat + num b := by
  have hm : x.msb = false := by
    rw [BitVec.msb_eq_decide]; simp; omega
  unfold astp
  rw [stp_low x hm, sh_bit]
  omega
theorem astp_hi (x : V) (b : Bool) (h : 65536 ≤ 2 * x.toNat + num b) : (astp x b).toNat = (2 * x.toNat + num b - 65536) ^^^ 4129 := by
  have hb : num b ≤ 1 := by cases b <;> decide
  have hx := x.isLt
  have hm : x.msb = true := by
    rw [BitVec.msb_eq_decide]; simp; omega
  unfold astp stp
  rw [hm]
  show ((x <<< 1 ^^^ P) ^^^ bit b).toNat = _
  rw [BitVec.xor_assoc, BitVec.xor_comm P, ← BitVec.xor_assoc, BitVec.toNat_xor, sh_bit]
  have e : 2 * x.toNat % 65536 + num b = 2 * x.toNat + num b - 65536 := by omega
  rw [e]; rfl
theorem left_inBit (l : List Nat) (hl : ∀ x ∈ l, x < 256) : left (inBit l) (8 * l.length + 16) = sum l := left_sum l hl _ (fun _ => rfl)
theorem num_le (b : Bool) : num b ≤ 1 := by cases b <;> decide
/-- the bit of a byte -/
theorem bit_byte (c j : Nat) : c / 2 ^ j % 2 = num (c.testBit j) := by
  rw [Nat.testBit_eq_decide_div_mod_eq]
  unfold num
  by_cases h : c / 2 ^ j % 2 = 1
  · simp [h]
  · simp [h]; omega
end Crc

theorem xor_p (y : Nat) (w : World) (hy : y < 65536) :
    Calls Try.prog 33 #[.int .i64 y, .int .i64 4129] w fun e w' => e = .returned (.int .i64 ((y ^^^ 4129 : Nat) : Int)) ∧ ∃ n, w' = w.drewN n := by
  have h := xor_any y 4129 w hy (by omega)
  rw [show ((4129 : Nat) : Int) = 4129 from rfl] at h
  exact h

set_option maxHeartbeats 400000 in
theorem rsum_any (a : Option Addr) (l : List Nat) (cap : Nat) (w : World) (hl : RdB w a l) (hn : l.length ≤ 1000000) :
    Calls Try.prog 17 #[.slice a l.length cap] w fun e w' => e = .returned (.int .i64 ((Crc.sum l).toNat : Int)) ∧ ∃ n, w' = w.drewN n := by
  have HL := Lib.hid hl; clear hl
  go_enter Try.func17, Try.ntmps17
  go_wp2
  go_loopg [4, 5] (8 * l.length + 16) (fun n s4 s5 wr => ∃ (k : Nat) (x : Crc.V), k + n = 8 * l.length + 16 ∧ s5 = .int .i64 k ∧ s4 = .int .i64 (x.toNat : Int) ∧ Hid (x = Crc.left (Crc.inBit l) k) ∧ ∃ m, wr = w.drewN m)
  case atStart => exact ⟨0, 0, by omega, rfl, rfl, rfl, 0, rfl⟩
  case round =>
    obtain ⟨k, x, hk, rfl, rfl, H, m, rfl⟩ := hrel
    have HK := Lib.hid hk
    have hle : k ≤ 8 * l.length + 16 := by omega
    clear hk
    have hx := v_lt x
    by_cases hlt : k < 8 * l.length + 16
    · have hnn := Crc.num_le (Crc.inBit l k)
      generalize hB : Crc.num (Crc.inBit l k) = B at hnn
      have HB := Lib.hid hB; clear hB
      go_upto_if 20 with (fail)
      have hn0 := Crc.num_le (Crc.bitOf l k)
      generalize hB0 : Crc.num (Crc.bitOf l k) = B0 at hn0
      have HB0 := Lib.hid hB0; clear hB0
      go_cut [6] (fun s6 wx => s6 = .int .i64 (B0 : Int) ∧ wx = w.drewN m)
      case first =>
        by_cases h1 : k < 8 * l.length
        · obtain ⟨b, off, rfl, hb, hc⟩ := HL.out.at_ (by omega)
          have hc1 := hc (k / 8) (by omega)
          clear hc
          have h2 := getD_lt256 HL.out.lt (k / 8)
          have hbo : Crc.bitOf l k = (l.getD (k / 8) 0).testBit (7 - k % 8) := by unfold Crc.bitOf; simp [h1]
          generalize l.getD (k / 8) 0 = c at hc1 h2 hbo
          obtain ⟨q, hq⟩ : ∃ q : Nat, q = c / 2 ^ (7 - k % 8) := ⟨_, rfl⟩
          have lq : q ≤ c := by rw [hq]; exact Nat.div_le_self _ _
          have hb2 := Crc.bit_byte c (7 - k % 8)
          rw [← hq, ← hbo, HB0.out] at hb2
          have E3 := Lib.hid (show (q : Int) % 2 = (B0 : Int) by omega)
          have e0 : wrap64 ((c : Int) / 2 ^ (7 - k % 8)) = (q : Int) := by
            have : (c : Int) / 2 ^ (7 - k % 8) = (q : Int) := by
              rw [hq, Int.natCast_ediv]
              congr 1
            rw [this]; exact IntWalk.wrap64_in _ (by omega)
          clear hbo hb2 hq
          go_wp2_with fail
          go_meet
          exact ⟨by rw [E3.out], rfl⟩
        · have hbo : Crc.bitOf l k = false := by unfold Crc.bitOf; simp [h1]
          have e3 : B0 = 0 := by rw [← HB0.out, hbo]; rfl
          subst e3
          clear hbo
          go_wp2_with fail
          go_meet
          exact ⟨rfl, rfl⟩
      case rest =>
      obtain ⟨rfl, rfl⟩ := hcut
      go_upto_if 34 with (fail)
      go_cut [6] (fun s6 wx => s6 = .int .i64 (B : Int) ∧ wx = w.drewN m)
      case first =>
        have hBB := HB.out
        have hB0 := HB0.out
        unfold Crc.inBit at hBB
        generalize Crc.bitOf l k = t at hBB hB0
        clear HB HB0
        by_cases h3 : k < 16
        · rw [if_pos h3] at hBB
          have E3 := Lib.hid (show (B : Int) = 1 - (B0 : Int) by cases t <;> simp [Crc.num] at hBB hB0 <;> omega)
          clear hBB hB0
          go_wp2_with fail
          go_meet
          exact ⟨by rw [E3.out], rfl⟩
        · rw [if_neg h3] at hBB
          have e3 : B = B0 := by rw [← hBB, ← hB0]
          subst e3
          clear hBB hB0
          go_wp2_with fail
          go_meet
          exact ⟨rfl, rfl⟩
      case rest =>
      obtain ⟨rfl, rfl⟩ := hcut
      by_cases h4 : (65536 : Int) ≤ 2 * (x.toNat : Int) + (B : Int)
      · obtain ⟨y, hy⟩ : ∃ y : Nat, (2 * (x.toNat : Int) + (B : Int) - 65536) = (y : Int) := ⟨2 * x.toNat + B - 65536, by omega⟩
        have hy2 : y < 65536 := by omega
        have HY := Lib.hid hy
        go_wp2_with (go_at_call 33; refine (xor_p y _ hy2).mono ?_; rintro e w' ⟨rfl, m', rfl⟩)
        go_roundg (gk - 1)
        case measure => have := HK.out; omega
        case rel =>
          refine ⟨k + 1, Crc.astp x (Crc.inBit l k), by have := HK.out; omega, by go_num, ?_, ?_, m + m', by simp [World.drewN_drewN]⟩
          · have h6 := Crc.astp_hi x (Crc.inBit l k) (by rw [HB.out]; omega)
            rw [h6, HB.out, show 2 * x.toNat + B - 65536 = y by have := HY.out; omega]
          · show _ = Crc.astp (Crc.left (Crc.inBit l) k) (Crc.inBit l k)
            rw [← show x = _ from H.out]
      · go_wp2_with fail
        go_roundg (gk - 1)
        case measure => have := HK.out; omega
        case rel =>
          refine ⟨k + 1, Crc.astp x (Crc.inBit l k), by have := HK.out; omega, by go_num, ?_, ?_, m, rfl⟩
          · have h6 := Crc.astp_lo x (Crc.inBit l k) (by rw [HB.out]; omega)
            rw [h6, HB.out]
            go_num
          · show _ = Crc.astp (Crc.left (Crc.inBit l) k) (Crc.inBit l k)
            rw [← show x = _ from H.out]
    · have hke : k = 8 * l.length + 16 := by omega
      have HE := Lib.hid hke; clear hke
      go_wp2_with fail
      go_ret
      refine ⟨ret_int ?_, m, rfl⟩
      rw [← Crc.left_inBit l HL.out.lt, ← HE.out, ← show x = _ from H.out]

end Go.Proofs.Ytfaabjohlimnlaa
