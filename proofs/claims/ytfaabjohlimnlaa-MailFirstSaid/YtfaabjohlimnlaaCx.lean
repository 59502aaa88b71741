/- The walks of the reference's exclusive or and division. No condition. -/
import Derived.Test.YtfaabjohlimnlaaCr
namespace Go.Proofs.Ytfaabjohlimnlaa
open Go.ChangeShapes Go.WideShapes Go.RowKit
set_option linter.unusedVariables false
set_option linter.unusedSimpArgs false

namespace Crc
theorem mod_next (n k : Nat) : n % 2 ^ (k + 1) = n % 2 ^ k + (if n / 2 ^ k % 2 = 1 then 2 ^ k else 0) := by
  rw [Nat.pow_succ, Nat.mod_mul]
  split
  · rename_i h; rw [h, Nat.mul_one]
  · rename_i h; rw [show n / 2 ^ k % 2 = 0 by omega, Nat.mul_zero]
theorem bit_next (a b k : Nat) : (a ^^^ b) / 2 ^ k % 2 = 1 ↔ a / 2 ^ k % 2 ≠ b / 2 ^ k % 2 := by
  have h : ∀ n : Nat, n / 2 ^ k % 2 = 1 ↔ n.testBit k = true := fun n => by rw [Nat.testBit_eq_decide_div_mod_eq]; simp
  have ha := h a
  have hb := h b
  rw [h, Nat.testBit_xor]
  cases hta : a.testBit k <;> cases htb : b.testBit k <;> simp [hta, htb] at ha hb ⊢ <;> omega
end Crc

set_option maxHeartbeats 400000 in
theorem xor_any (a b : Nat) (w : World) (ha : a < 65536) (hb : b < 65536) :
    Calls Try.prog 33 #[.int .i64 a, .int .i64 b] w fun e w' => e = .returned (.int .i64 ((a ^^^ b : Nat) : Int)) ∧ ∃ n, w' = w.drewN n := by
  go_enter Try.func33, Try.ntmps33
  go_wp2
  go_loopg [5, 6, 7] 16 (fun n s5 s6 s7 wr => ∃ (k out part : Nat), k + n = 16 ∧ s7 = .int .i64 k ∧ s5 = .int .i64 out ∧ s6 = .int .i64 part ∧ 1 ≤ part ∧ part ≤ 65536 ∧ out ≤ 65536 ∧ Hid (out = (a ^^^ b) % 2 ^ k ∧ part = 2 ^ k) ∧ ∃ m, wr = w.drewN m)
  case atStart => exact ⟨0, 0, 1, by omega, rfl, rfl, rfl, by omega, by omega, by omega, ⟨by simp [Nat.mod_one], rfl⟩, 0, rfl⟩
  case round =>
    obtain ⟨k, out, part, hk, rfl, rfl, rfl, hp, hp', ho, H, m, rfl⟩ := hrel
    have HK := Lib.hid hk
    by_cases hlt : k < 16
    · have hle : k ≤ 16 := by omega
      clear hk
      obtain ⟨qa, hqa⟩ : ∃ q : Nat, q = a / part := ⟨_, rfl⟩
      obtain ⟨qb, hqb⟩ : ∃ q : Nat, q = b / part := ⟨_, rfl⟩
      have la : qa ≤ a := by rw [hqa]; exact Nat.div_le_self _ _
      have lb : qb ≤ b := by rw [hqb]; exact Nat.div_le_self _ _
      have e1 : wrap64 ((a : Int) / (part : Int)) = (qa : Int) := by
        have : (a : Int) / (part : Int) = (qa : Int) := by rw [hqa]; exact (Int.natCast_ediv a part).symm
        rw [this]; exact IntWalk.wrap64_in _ (by omega)
      have e2 : wrap64 ((b : Int) / (part : Int)) = (qb : Int) := by
        have : (b : Int) / (part : Int) = (qb : Int) := by rw [hqb]; exact (Int.natCast_ediv b part).symm
        rw [this]; exact IntWalk.wrap64_in _ (by omega)
      have HQ := Lib.hid (And.intro hqa hqb); clear hqa hqb
      by_cases hd : qa % 2 = qb % 2
      · have HDn := Lib.hid hd
        have ht : ((qa : Int) % 2 != (qb : Int) % 2) = false := by simp; omega
        clear hd
        go_wp2_with fail
        go_quiet (fail)
        go_wp2_with fail
        go_roundg (gk - 1)
        case measure => have := HK.out; omega
        case rel =>
          have h1 := HK.out
          have h2 := HQ.out
          have h3 := HDn.out
          have hpk := H.out.2
          have hbit := Crc.bit_next a b k
          rw [← hpk, ← h2.1, ← h2.2] at hbit
          refine ⟨k + 1, out, 2 * part, by omega, by go_num, rfl, by go_num, by omega, ?_, by omega, ⟨?_, ?_⟩, ?_⟩
          · rw [hpk, show 65536 = 2 * 2 ^ 15 by rfl]
            exact Nat.mul_le_mul_left _ (Nat.pow_le_pow_right (by omega) (by omega))
          · rw [Crc.mod_next, ← hpk, if_neg (by rw [hbit]; omega), Nat.add_zero, hpk]
            exact H.out.1
          · rw [Nat.pow_succ, hpk, Nat.mul_comm]
          · exact ⟨m + nq, by first | rfl | simp [World.drewN_drewN]⟩
      · have HDn := Lib.hid hd
        have ht : ((qa : Int) % 2 != (qb : Int) % 2) = true := by simp; omega
        clear hd
        go_wp2_with fail
        go_quiet (fail)
        go_wp2_with fail
        go_roundg (gk - 1)
        case measure => have := HK.out; omega
        case rel =>
          have h1 := HK.out
          have h2 := HQ.out
          have h3 := HDn.out
          have hpk := H.out.2
          have hbit := Crc.bit_next a b k
          rw [← hpk, ← h2.1, ← h2.2] at hbit
          refine ⟨k + 1, out + part, 2 * part, by omega, by go_num, by go_num, by go_num, by omega, ?_, ?_, ⟨?_, ?_⟩, ?_⟩
          · rw [hpk, show 65536 = 2 * 2 ^ 15 by rfl]
            exact Nat.mul_le_mul_left _ (Nat.pow_le_pow_right (by omega) (by omega))
          · have hb1 : part ≤ 2 ^ 15 := by rw [hpk]; exact Nat.pow_le_pow_right (by omega) (by omega)
            have hb2 : out < part := by rw [show out = _ from H.out.1, hpk]; exact Nat.mod_lt _ (Nat.two_pow_pos k)
            omega
          · rw [Crc.mod_next, ← hpk, if_pos (by rw [hbit]; omega)]
            rw [← show out = (a ^^^ b) % part from by rw [hpk]; exact H.out.1]
          · rw [Nat.pow_succ, hpk, Nat.mul_comm]
          · exact ⟨m + nq, by first | rfl | simp [World.drewN_drewN]⟩
    · obtain rfl : k = 16 := by omega
      go_wp2_with fail
      go_ret
      refine ⟨ret_int ?_, m, rfl⟩
      rw [show out = _ from H.out.1]
      rw [Nat.mod_eq_of_lt]
      exact Nat.xor_lt_two_pow ha hb

end Go.Proofs.Ytfaabjohlimnlaa
