/- Frames with a bit turned, cut off, or gone on: in plain numbers. No condition. -/
import Derived.Test.YtfaabjohlimnlaaFm
namespace Go.Proofs.Ytfaabjohlimnlaa.Crc
set_option linter.unusedVariables false
set_option linter.unusedSimpArgs false

theorem more_d (s d : V) (b : Nat) : more (s ^^^ d) b = more s b ^^^ stpN 8 d := by
  unfold more
  rw [← stpN_xor]
  congr 1
  ac_rfl
theorem go_d (s d : V) (l : List Nat) : go (s ^^^ d) l = go s l ^^^ stpN (8 * l.length) d := by
  induction l generalizing s d with
  | nil => rfl
  | cons x l ih =>
    show go (more (s ^^^ d) x) l = go (more s x) l ^^^ _
    rw [more_d, ih, stpN_add]
    congr 2
    simp; omega
theorem xor_self_zero {x y : V} (h : x ^^^ y = x) : y = 0 := by
  have : x ^^^ (x ^^^ y) = x ^^^ x := by rw [h]
  rw [← BitVec.xor_assoc, BitVec.xor_self, BitVec.zero_xor] at this
  exact this
/-- one byte that is not what it was: another sum -/
theorem turned_sum (a b : List Nat) (x t : Nat) (h0 : t ≠ 0) (ht : t < 256) (h : sum (a ++ (x ^^^ t) :: b) = sum (a ++ x :: b)) : False := by
  rw [sum_append, sum_append] at h
  have e : more (sum a) (x ^^^ t) = more (sum a) x ^^^ stpN 8 (BitVec.ofNat 16 (t * 256)) := by
    have := more_xor (sum a) 0#16 x t
    rw [BitVec.xor_zero] at this
    rw [this]
    unfold more
    rw [BitVec.zero_xor]
  have h2 : go (more (sum a) (x ^^^ t)) b = go (more (sum a) x) b := h
  rw [e, go_d] at h2
  have h3 := stpN_eq_zero _ _ (stpN_eq_zero _ _ (xor_self_zero h2))
  have h4 := congrArg BitVec.toNat h3
  simp at h4
  omega
end Go.Proofs.Ytfaabjohlimnlaa.Crc

namespace Go.Proofs.Ytfaabjohlimnlaa.Fr
open Go.Proofs.Ytfaabjohlimnlaa
set_option linter.unusedVariables false
set_option linter.unusedSimpArgs false
theorem set_split (l : List Nat) (i y : Nat) (hi : i < l.length) : ∃ a b, l = a ++ l.getD i 0 :: b ∧ l.set i y = a ++ y :: b := by
  refine ⟨l.take i, l.drop (i + 1), ?_, ?_⟩
  · conv => lhs; rw [← List.take_append_drop i l, List.drop_eq_getElem_cons hi]
    simp [List.getD, hi]
  · rw [List.set_eq_take_append_cons_drop, if_pos hi]

theorem turned_err (k s v : Int) (i t : Nat) (hi : i < (bytes k s v).length) (h0 : t ≠ 0) (ht : t < 256) (hl : ∀ x ∈ (bytes k s v).set i ((bytes k s v).getD i 0 ^^^ t), x < 256) :
    (get ((bytes k s v).set i ((bytes k s v).getD i 0 ^^^ t))).err ≠ 0 := by
  intro h
  have hb := (bytes_get _ hl h).2.2
  have hs : Crc.sum ((bytes k s v).set i ((bytes k s v).getD i 0 ^^^ t)) = 0 := by rw [← hb]; exact bytes_sum _ _ _
  obtain ⟨a, b, e1, e2⟩ := set_split (bytes k s v) i ((bytes k s v).getD i 0 ^^^ t) hi
  rw [e2] at hs
  have hs2 := bytes_sum k s v
  rw [e1] at hs2
  exact Crc.turned_sum a b _ t h0 ht (by rw [hs, hs2])

theorem bytes_first (k s v : Int) (hk : sz k ≠ 0) : (((bytes k s v).getD 0 0 : Nat) : Int) = k := by
  have hk1 : 1 ≤ k ∧ k ≤ 5 := by rcases sz_cases k with h | h | h <;> omega
  have e0 : (bytes k s v).getD 0 0 = k.toNat := rfl
  rw [e0]; omega

theorem len_err (l : List Nat) (k : Int) (hk : sz k ≠ 0) (h0 : ((l.getD 0 0 : Nat) : Int) = k) (hn : l.length ≠ 5 + sz k) : (get l).err ≠ 0 := by
  unfold get
  split
  · decide
  · rw [h0]
    rw [if_neg hk, if_pos (.inr hn)]
    decide

theorem cut_err (k s v : Int) (hk : sz k ≠ 0) (m : Nat) (hm : m < (bytes k s v).length) : (get ((bytes k s v).take m)).err ≠ 0 := by
  by_cases h0 : m = 0
  · subst h0
    unfold get
    rw [if_pos (by simp)]
    decide
  · refine len_err _ k hk ?_ ?_
    · have : ((bytes k s v).take m).getD 0 0 = (bytes k s v).getD 0 0 := by simp [List.getD, List.getElem?_take, show 0 < m by omega]
      rw [this]; exact bytes_first k s v hk
    · rw [List.length_take]
      rw [bytes_len] at hm ⊢
      omega

theorem on_err (k s v : Int) (hk : sz k ≠ 0) (h : ok k s v) (m : List Nat) : (get (bytes k s v ++ m)).err = 0 ↔ m.length = 0 := by
  constructor
  · intro he
    apply Classical.byContradiction
    intro hm
    refine len_err (bytes k s v ++ m) k hk ?_ ?_ he
    · have : (bytes k s v ++ m).getD 0 0 = (bytes k s v).getD 0 0 := by
        simp [List.getD, List.getElem?_append, show 0 < (bytes k s v).length by rw [bytes_len]; omega]
      rw [this]; exact bytes_first k s v hk
    · rw [List.length_append, bytes_len]; omega
  · intro hm
    rw [List.eq_nil_of_length_eq_zero hm, List.append_nil, get_bytes k s v hk h]
end Go.Proofs.Ytfaabjohlimnlaa.Fr
