/- The division, bit by bit, leaves just the sum that the register holds. In plain numbers. No condition. -/
import Derived.Test.YtfaabjohlimnlaaCm
namespace Go.Proofs.Ytfaabjohlimnlaa.Crc
set_option linter.unusedVariables false
set_option linter.unusedSimpArgs false

def bit (b : Bool) : V := if b then 1#16 else 0#16
/-- one bit more is divided -/
def astp (r : V) (b : Bool) : V := stp r ^^^ bit b
/-- what is left of the first k bits -/
def left (u : Nat → Bool) : Nat → V
  | 0 => 0
  | k + 1 => astp (left u k) (u k)
/-- the register, bit by bit -/
def reg (m : Nat → Bool) : Nat → V
  | 0 => 65535#16
  | k + 1 => stp (reg m k ^^^ (if m k then 32768#16 else 0#16))
/-- j bits from k on, as a number -/
def win (m : Nat → Bool) (k : Nat) : Nat → V
  | 0 => 0
  | j + 1 => (win m k j <<< 1) ^^^ bit (m (k + j))

theorem bit_get (b : Bool) (i : Nat) : (bit b).getLsbD i = (decide (i = 0) && b) := by
  unfold bit
  cases b
  · simp
  · by_cases hi : i = 0
    · subst hi; rfl
    · simp [hi]

theorem win_get (m : Nat → Bool) (k j i : Nat) (hi : i < 16) : (win m k j).getLsbD i = (decide (i < j) && m (k + j - 1 - i)) := by
  induction j generalizing i with
  | zero => simp [win]
  | succ j ih =>
    rw [win, BitVec.getLsbD_xor, BitVec.getLsbD_shiftLeft, bit_get]
    cases i with
    | zero => simp
    | succ i =>
      rw [show i + 1 - 1 = i by omega, ih i (by omega)]
      simp [show ¬ (i + 1 < 1) by omega, show i + 1 < 16 from hi, show k + (j + 1) - 1 - (i + 1) = k + j - 1 - i by omega]
      rw [show k + j - 1 - i = k + j - (i + 1) by omega]

theorem ext16 {x y : V} (h : ∀ i, i < 16 → x.getLsbD i = y.getLsbD i) : x = y := by
  ext i hi
  simpa [BitVec.getLsbD_eq_getElem, hi] using h i hi

theorem win_next (m : Nat → Bool) (k : Nat) : win m (k + 1) 16 = (win m k 16 <<< 1) ^^^ bit (m (k + 16)) := by
  apply ext16
  intro i hi
  rw [win_get _ _ _ _ hi, BitVec.getLsbD_xor, BitVec.getLsbD_shiftLeft, bit_get]
  cases i with
  | zero => simp
  | succ i =>
    rw [show i + 1 - 1 = i by omega, win_get _ _ _ _ (by omega)]
    simp [show ¬ (i + 1 < 1) by omega, hi, show i < 16 by omega, show k + 1 + 16 - 1 - (i + 1) = k + 16 - 1 - i by omega]

theorem stp_low (x : V) (h : x.msb = false) : stp x = x <<< 1 := by unfold stp; rw [h]; rfl

theorem left_first (u : Nat → Bool) : ∀ j, j ≤ 16 → left u j = win u 0 j := by
  intro j
  induction j with
  | zero => intro _; rfl
  | succ j ih =>
    intro hj
    rw [left, astp, ih (by omega), win, Nat.zero_add, stp_low]
    rw [BitVec.msb_eq_getLsbD_last, win_get _ _ _ _ (by omega)]
    simp; omega

/-- what a step makes of a sum of which the upper bit alone counts -/
theorem stp_split (x y : V) : stp (x ^^^ y) = stp (x ^^^ (if y.msb then 32768#16 else 0#16)) ^^^ (y <<< 1) := by
  rw [stp_xor, stp_xor, BitVec.xor_assoc]
  congr 1
  have h1 : stp 32768#16 = P := by decide
  have h2 : stp (0#16) = 0#16 := by decide
  unfold stp
  cases hm : y.msb
  · simp
  · simp
    show _ = (stp 32768#16) ^^^ (y <<< 1)
    rw [h1, BitVec.xor_comm]

theorem win_msb (m : Nat → Bool) (k : Nat) : (win m k 16).msb = m k := by
  rw [BitVec.msb_eq_getLsbD_last, win_get _ _ _ _ (by omega)]
  simp

/-- behind 16 + k bits: the register behind k, and the next 16 bits -/
theorem left_reg (m u : Nat → Bool) (hu : ∀ i, u i = if i < 16 then !m i else m i) : ∀ k, left u (16 + k) = reg m k ^^^ win m k 16 := by
  intro k
  induction k with
  | zero =>
    rw [left_first u (16 + 0) (by omega)]
    apply ext16
    intro i hi
    rw [win_get _ _ _ _ hi, BitVec.getLsbD_xor, win_get _ _ _ _ hi, hu]
    have h1 : (reg m 0).getLsbD i = true := by
      show (65535#16).getLsbD i = true
      have : ∀ i : Fin 16, (65535#16).getLsbD i.val = true := by decide
      exact this ⟨i, hi⟩
    rw [h1]
    simp [hi, show 0 + (16 + 0) - 1 - i < 16 by omega]
  | succ k ih =>
    have hu' : u (16 + k) = m (k + 16) := by rw [hu, if_neg (by omega), Nat.add_comm]
    rw [show 16 + (k + 1) = (16 + k) + 1 by omega, left, astp, ih, stp_split, win_msb, win_next, hu', reg, BitVec.xor_assoc]

/-- the bits of bytes; none behind their end -/
def bitOf (l : List Nat) (k : Nat) : Bool := decide (k < 8 * l.length) && (l.getD (k / 8) 0).testBit (7 - k % 8)

theorem win_none (l : List Nat) : win (bitOf l) (8 * l.length) 16 = 0 := by
  apply ext16
  intro i hi
  rw [win_get _ _ _ _ hi]
  simp [bitOf]
  intro _ h
  omega

/-- eight bits of a byte: as the whole byte -/
theorem reg_byte (m : Nat → Bool) (k b : Nat) (hb : b < 256) (hm : ∀ i, i < 8 → m (k + i) = b.testBit (7 - i)) : reg m (k + 8) = more (reg m k) b := by
  have key : ∀ i, i ≤ 8 → stpN i (reg m k ^^^ BitVec.ofNat 16 (b * 256)) = reg m (k + i) ^^^ (BitVec.ofNat 16 (b * 256) <<< i) := by
    intro i
    induction i with
    | zero => intro _; simp [stpN]
    | succ i ih =>
      intro hi
      rw [stpN_succ, ih (by omega), stp_split, ← BitVec.shiftLeft_add]
      have h1 : (BitVec.ofNat 16 (b * 256) <<< i).msb = m (k + i) := by
        rw [hm i (by omega), BitVec.msb_eq_getLsbD_last, BitVec.getLsbD_shiftLeft, BitVec.getLsbD_ofNat]
        have e : b * 256 = 2 ^ 8 * b := by omega
        rw [e, Nat.testBit_two_pow_mul]
        simp [show ¬ (15 < i) by omega, show 15 - i < 16 by omega, show 8 ≤ 15 - i by omega, show 15 - i - 8 = 7 - i by omega]
      rw [h1]
      rfl
  have h8 := key 8 (by omega)
  unfold more
  rw [h8]
  have : BitVec.ofNat 16 (b * 256) <<< 8 = 0 := by
    apply BitVec.eq_of_toNat_eq
    simp [BitVec.toNat_shiftLeft, Nat.shiftLeft_eq]
    omega
  rw [this]
  simp

theorem reg_go (l : List Nat) (hl : ∀ x ∈ l, x < 256) : ∀ j, j ≤ l.length → reg (bitOf l) (8 * j) = sum (l.take j) := by
  intro j
  induction j with
  | zero => intro _; rfl
  | succ j ih =>
    intro hj
    have hlt : j < l.length := by omega
    rw [List.take_succ_eq_append_getElem hlt]
    show _ = go 65535#16 (l.take j ++ [l[j]])
    rw [go_snoc]
    show _ = more (sum (l.take j)) l[j]
    rw [← ih (by omega), show 8 * (j + 1) = 8 * j + 8 by omega]
    refine reg_byte _ _ _ (hl _ (List.getElem_mem hlt)) (fun i hi => ?_)
    unfold bitOf
    rw [show (8 * j + i) / 8 = j by omega, show (8 * j + i) % 8 = i by omega]
    simp [List.getD, List.getElem?_eq_getElem hlt]
    omega

/-- WHAT IS LEFT OF THE DIVISION IS THE SUM -/
theorem left_sum (l : List Nat) (hl : ∀ x ∈ l, x < 256) (u : Nat → Bool) (hu : ∀ i, u i = if i < 16 then !bitOf l i else bitOf l i) : left u (8 * l.length + 16) = sum l := by
  rw [Nat.add_comm, left_reg (bitOf l) u hu, win_none]
  have := reg_go l hl l.length (Nat.le_refl _)
  rw [List.take_length] at this
  rw [this]
  simp

end Go.Proofs.Ytfaabjohlimnlaa.Crc
