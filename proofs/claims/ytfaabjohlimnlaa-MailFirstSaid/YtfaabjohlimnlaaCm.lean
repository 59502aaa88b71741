/- The sums of bytes, in plain numbers: the register's step is linear; bit by bit and byte by byte agree with the division. No condition. -/
import GoSem.Claim
namespace Go.Proofs.Ytfaabjohlimnlaa.Crc
set_option linter.unusedVariables false
set_option linter.unusedSimpArgs false

abbrev V := BitVec 16
def P : V := 4129#16
/-- the register moves on by one bit -/
def stp (x : V) : V := if x.msb then (x <<< 1) ^^^ P else x <<< 1

theorem sh_xor (x y : V) : (x ^^^ y) <<< 1 = (x <<< 1) ^^^ (y <<< 1) := by
  ext i hi
  simp
  cases i <;> simp

theorem stp_xor (x y : V) : stp (x ^^^ y) = stp x ^^^ stp y := by
  unfold stp
  rw [BitVec.msb_xor, sh_xor]
  cases x.msb <;> cases y.msb <;> simp
  · rw [BitVec.xor_assoc]
  · rw [BitVec.xor_assoc, BitVec.xor_assoc, BitVec.xor_comm P]
  · rw [BitVec.xor_assoc, BitVec.xor_comm P, BitVec.xor_assoc, BitVec.xor_self, BitVec.xor_zero]

theorem stp_zero : stp 0 = 0 := by decide

theorem stp_eq_zero (x : V) (h : stp x = 0) : x = 0 := by
  unfold stp at h
  split at h
  · rename_i hm
    exfalso
    have h1 : (x <<< 1 ^^^ P).getLsbD 0 = false := by rw [h]; rfl
    have h2 : P.getLsbD 0 = true := by decide
    rw [BitVec.getLsbD_xor, h2] at h1
    simp at h1
  · rename_i hm
    ext i hi
    by_cases h15 : i = 15
    · subst h15
      simp [BitVec.msb_eq_getLsbD_last] at hm
      simpa [BitVec.getLsbD_eq_getElem] using hm
    · have h1 : (x <<< 1).getLsbD (i + 1) = false := by rw [h]; simp
      simp [BitVec.getLsbD_shiftLeft] at h1
      have h2 := h1 (by omega)
      simpa [BitVec.getLsbD_eq_getElem, hi] using h2

def stpN : Nat → V → V
  | 0, x => x
  | n + 1, x => stpN n (stp x)
theorem stpN_succ (n : Nat) (x : V) : stpN (n + 1) x = stp (stpN n x) := by
  induction n generalizing x with
  | zero => rfl
  | succ n ih => exact ih (stp x)
theorem stpN_xor (n : Nat) (x y : V) : stpN n (x ^^^ y) = stpN n x ^^^ stpN n y := by
  induction n generalizing x y with
  | zero => rfl
  | succ n ih => rw [stpN, stp_xor, ih]; rfl
theorem stpN_zero (n : Nat) : stpN n 0 = 0 := by
  induction n with
  | zero => rfl
  | succ n ih => rw [stpN, stp_zero, ih]
theorem stpN_eq_zero (n : Nat) (x : V) (h : stpN n x = 0) : x = 0 := by
  induction n generalizing x with
  | zero => exact h
  | succ n ih => exact stp_eq_zero x (ih _ h)
theorem stpN_add (m n : Nat) (x : V) : stpN m (stpN n x) = stpN (n + m) x := by
  induction n generalizing x with
  | zero => simp [stpN]
  | succ n ih => rw [show n + 1 + m = (n + m) + 1 by omega]; exact ih (stp x)

/-- a sum with one more byte -/
def more (s : V) (b : Nat) : V := stpN 8 (s ^^^ (BitVec.ofNat 16 (b * 256)))
def go (s : V) (l : List Nat) : V := l.foldl more s
def sum (l : List Nat) : V := go 65535#16 l

theorem go_append (s : V) (a b : List Nat) : go s (a ++ b) = go (go s a) b := by simp [go]
theorem go_snoc (s : V) (a : List Nat) (x : Nat) : go s (a ++ [x]) = more (go s a) x := by simp [go]
theorem sum_append (a b : List Nat) : sum (a ++ b) = go (sum a) b := go_append _ _ _

theorem ofNat_xor (a b : Nat) : BitVec.ofNat 16 (a ^^^ b) = BitVec.ofNat 16 a ^^^ BitVec.ofNat 16 b := by
  apply BitVec.eq_of_toNat_eq
  simp [Nat.xor_mod_two_pow (n := 16)]

theorem mul_xor (a b n : Nat) : (a ^^^ b) * 2 ^ n = (a * 2 ^ n) ^^^ (b * 2 ^ n) := by
  rw [← Nat.shiftLeft_eq, ← Nat.shiftLeft_eq, ← Nat.shiftLeft_eq, Nat.shiftLeft_xor_distrib]

theorem more_xor (s t : V) (a b : Nat) : more (s ^^^ t) (a ^^^ b) = more s a ^^^ more t b := by
  unfold more
  rw [show (a ^^^ b) * 256 = (a * 256) ^^^ (b * 256) from mul_xor a b 8, ofNat_xor, ← stpN_xor]
  congr 1
  ac_rfl

/-- three texts put into one another -/
theorem go_xor3 (s t u : V) : ∀ (a b c : List Nat), a.length = b.length → a.length = c.length →
    go (s ^^^ t ^^^ u) ((List.range a.length).map fun i => (a.getD i 0 ^^^ b.getD i 0) ^^^ c.getD i 0) = go s a ^^^ go t b ^^^ go u c := by
  intro a
  induction a generalizing s t u with
  | nil =>
    intro b c hb hc
    have : b = [] := List.eq_nil_of_length_eq_zero hb.symm
    have : c = [] := List.eq_nil_of_length_eq_zero hc.symm
    subst b c
    simp [go]
  | cons x a ih =>
    intro b c hb hc
    cases b with
    | nil => simp at hb
    | cons y b =>
      cases c with
      | nil => simp at hc
      | cons z c =>
        have h := ih (more s x) (more t y) (more u z) b c (by simpa using hb) (by simpa using hc)
        rw [List.length_cons, List.range_succ_eq_map, List.map_cons, List.map_map]
        show go (more (s ^^^ t ^^^ u) ((x ^^^ y) ^^^ z)) _ = go (more s x) a ^^^ go (more t y) b ^^^ go (more u z) c
        rw [more_xor, more_xor, ← h]
        rfl

/-! ### A seal -/
theorem sh8 (b : Nat) (hb : b < 256) : ∀ n, n ≤ 8 → stpN n (BitVec.ofNat 16 b) = BitVec.ofNat 16 (b * 2 ^ n) := by
  intro n
  induction n with
  | zero => intro _; simp [stpN]
  | succ n ih =>
    intro hn
    rw [stpN_succ, ih (by omega)]
    have hp : 2 ^ n ≤ 2 ^ 7 := Nat.pow_le_pow_right (by omega) (by omega)
    have hlt : b * 2 ^ n < 32768 := by
      calc b * 2 ^ n ≤ b * 2 ^ 7 := Nat.mul_le_mul_left _ hp
        _ < 32768 := by omega
    have hm : (BitVec.ofNat 16 (b * 2 ^ n)).msb = false := by
      rw [BitVec.msb_eq_decide]
      simp only [BitVec.toNat_ofNat, decide_eq_false_iff_not, ge_iff_le, Nat.not_le]
      rw [Nat.mod_eq_of_lt (by omega)]
      simpa using hlt
    unfold stp
    rw [hm]
    apply BitVec.eq_of_toNat_eq
    simp [BitVec.toNat_shiftLeft, Nat.shiftLeft_eq, Nat.pow_succ, Nat.mul_assoc]

/-- two more bytes: sixteen steps -/
theorem more_more (s : V) (h l : Nat) (hl : l < 256) : more (more s h) l = stpN 16 (s ^^^ BitVec.ofNat 16 (h * 256) ^^^ BitVec.ofNat 16 l) := by
  have e := sh8 l hl 8 (by omega)
  unfold more
  rw [show l * 256 = l * 2 ^ 8 by rfl, ← e, ← stpN_xor, stpN_add]

theorem more_more_zero (s : V) (h l : Nat) (hh : h < 256) (hl : l < 256) : more (more s h) l = 0 ↔ s.toNat = h * 256 + l := by
  rw [more_more s h l hl]
  have e : BitVec.ofNat 16 (h * 256) ^^^ BitVec.ofNat 16 l = BitVec.ofNat 16 (h * 256 + l) := by
    rw [← ofNat_xor]
    congr 1
    have := Nat.two_pow_add_eq_or_of_lt (i := 8) (b := l) (by simpa using hl) h
    have h2 : h * 256 ^^^ l = h * 256 + l := by
      rw [Nat.mul_comm, show (256 : Nat) = 2 ^ 8 by rfl, this]
      apply Nat.eq_of_testBit_eq
      intro i
      rw [Nat.testBit_xor, Nat.testBit_or]
      by_cases hi : i < 8
      · have : (2 ^ 8 * h).testBit i = false := by rw [Nat.testBit_two_pow_mul]; simp; omega
        rw [this]; simp
      · have : l.testBit i = false := Nat.testBit_lt_two_pow (Nat.lt_of_lt_of_le hl (by simpa using Nat.pow_le_pow_right (n := 2) (by omega) (by omega : 8 ≤ i)))
        rw [this]; simp
    exact h2
  rw [BitVec.xor_assoc, e]
  constructor
  · intro h0
    have h1 := stpN_eq_zero 16 _ h0
    have h2 : s = BitVec.ofNat 16 (h * 256 + l) := by
      have := congrArg (· ^^^ BitVec.ofNat 16 (h * 256 + l)) h1
      simpa [BitVec.xor_assoc] using this
    rw [h2, BitVec.toNat_ofNat]
    exact Nat.mod_eq_of_lt (by omega)
  · intro h0
    have : s = BitVec.ofNat 16 (h * 256 + l) := by
      apply BitVec.eq_of_toNat_eq
      rw [h0, BitVec.toNat_ofNat, Nat.mod_eq_of_lt (by omega)]
    rw [this, BitVec.xor_self]; exact stpN_zero 16

theorem sum_zero (l : List Nat) (h k : Nat) (hh : h < 256) (hk : k < 256) : sum (l ++ [h, k]) = 0 ↔ (sum l).toNat = h * 256 + k := by
  rw [sum_append]
  exact more_more_zero (sum l) h k hh hk

end Go.Proofs.Ytfaabjohlimnlaa.Crc
