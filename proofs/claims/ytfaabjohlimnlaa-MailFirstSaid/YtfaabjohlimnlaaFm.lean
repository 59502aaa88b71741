/- Frames, in plain numbers: the bytes of a frame, and the frame of bytes. No condition. -/
import Derived.Test.YtfaabjohlimnlaaCm
namespace Go.Proofs.Ytfaabjohlimnlaa.Fr
open Go.Proofs.Ytfaabjohlimnlaa
set_option linter.unusedVariables false
set_option linter.unusedSimpArgs false

/-- how many bytes the value of a kind has; 0: there is no such kind -/
def sz (k : Int) : Nat := if k = 1 ∨ k = 2 ∨ k = 5 then 2 else if k = 3 ∨ k = 4 then 4 else 0
/-- may such a kind have such a value -/
def fits (n : Nat) (v : Int) : Prop := (n = 2 → 0 ≤ v ∧ v ≤ 65535) ∧ (n = 4 → -2147483648 ≤ v ∧ v ≤ 2147483647)
def ok (k s v : Int) : Prop := (0 ≤ s ∧ s ≤ 255) ∧ fits (sz k) v
/-- a number's bytes -/
def be : Nat → Int → List Nat
  | 0, _ => []
  | n + 1, v => be n (v / 256) ++ [(v % 256).toNat]
def enc (k s v : Int) : List Nat := [k.toNat, s.toNat, sz k] ++ be (sz k) v
/-- a frame's bytes -/
def bytes (k s v : Int) : List Nat := enc k s v ++ [(Crc.sum (enc k s v)).toNat / 256, (Crc.sum (enc k s v)).toNat % 256]

theorem sz_cases (k : Int) : (sz k = 0 ∧ ¬ (1 ≤ k ∧ k ≤ 5)) ∨ (sz k = 2 ∧ (k = 1 ∨ k = 2 ∨ k = 5)) ∨ (sz k = 4 ∧ (k = 3 ∨ k = 4)) := by
  unfold sz
  by_cases h1 : k = 1 ∨ k = 2 ∨ k = 5
  · rw [if_pos h1]; exact .inr (.inl ⟨rfl, h1⟩)
  · rw [if_neg h1]
    by_cases h2 : k = 3 ∨ k = 4
    · rw [if_pos h2]; exact .inr (.inr ⟨rfl, h2⟩)
    · rw [if_neg h2]; exact .inl ⟨rfl, by omega⟩

theorem be_len (n : Nat) (v : Int) : (be n v).length = n := by
  induction n generalizing v with
  | zero => rfl
  | succ n ih => simp [be, ih]
theorem be_lt (n : Nat) (v : Int) : ∀ x ∈ be n v, x < 256 := by
  induction n generalizing v with
  | zero => simp [be]
  | succ n ih =>
    intro x hx
    simp only [be, List.mem_append, List.mem_singleton] at hx
    rcases hx with hx | rfl
    · exact ih _ x hx
    · omega
theorem be2 (v : Int) : be 2 v = [(v / 256 % 256).toNat, (v % 256).toNat] := rfl
theorem be4 (v : Int) : be 4 v = [(v / 16777216 % 256).toNat, (v / 65536 % 256).toNat, (v / 256 % 256).toNat, (v % 256).toNat] := by
  have h1 : v / 65536 / 256 = v / 16777216 := by omega
  have h2 : v / 256 / 256 = v / 65536 := by omega
  simp only [be, List.nil_append, List.cons_append, h2, h1]

/-- the number of bytes -/
def val (l : List Nat) : Nat := l.foldl (fun v c => v * 256 + c) 0
theorem val_snoc (l : List Nat) (c : Nat) : val (l ++ [c]) = val l * 256 + c := by simp [val]
/-- a number of n bytes, with its sign -/
def sgn (n u : Nat) : Int := if n = 4 ∧ 2147483648 ≤ u then (u : Int) - 4294967296 else u

theorem val2 (v : Int) (h : 0 ≤ v ∧ v ≤ 65535) : (val (be 2 v) : Int) = v := by
  rw [be2]; simp [val]; omega
theorem val4 (v : Int) (h : -2147483648 ≤ v ∧ v ≤ 2147483647) : sgn 4 (val (be 4 v)) = v := by
  rw [be4]
  simp only [val, List.foldl, sgn, true_and]
  split <;> omega

structure G where
  kind : Int
  seq : Int
  value : Int
  err : Int

/-- the frame of bytes -/
def get (l : List Nat) : G :=
  if l.length < 5 then ⟨0, 0, 0, 14⟩
  else if sz (l.getD 0 0) = 0 then ⟨0, 0, 0, 30⟩
  else if l.getD 2 0 ≠ sz (l.getD 0 0) ∨ l.length ≠ 5 + sz (l.getD 0 0) then ⟨0, 0, 0, 11⟩
  else if Crc.sum l ≠ 0 then ⟨0, 0, 0, 31⟩
  else ⟨l.getD 0 0, l.getD 1 0, sgn (sz (l.getD 0 0)) (val ((l.drop 3).take (sz (l.getD 0 0)))), 0⟩

theorem enc_len (k s v : Int) : (enc k s v).length = 3 + sz k := by simp [enc, be_len]; omega
theorem bytes_len (k s v : Int) : (bytes k s v).length = 5 + sz k := by simp [bytes, enc_len]; omega
theorem bytes_sum (k s v : Int) : Crc.sum (bytes k s v) = 0 := by
  have := (Crc.sum (enc k s v)).isLt
  exact (Crc.sum_zero _ _ _ (by omega) (by omega)).2 (by omega)

/-- a frame is read again from its bytes -/
theorem get_bytes (k s v : Int) (hk : sz k ≠ 0) (h : ok k s v) : get (bytes k s v) = ⟨k, s, v, 0⟩ := by
  have hk1 : 1 ≤ k ∧ k ≤ 5 := by rcases sz_cases k with h | h | h <;> omega
  have e0 : (bytes k s v).getD 0 0 = k.toNat := rfl
  have e1 : (bytes k s v).getD 1 0 = s.toNat := rfl
  have e2 : (bytes k s v).getD 2 0 = sz k := rfl
  have ek : ((k.toNat : Nat) : Int) = k := by omega
  have ed : ((bytes k s v).drop 3).take (sz k) = be (sz k) v := by
    show ((be (sz k) v ++ _).take (sz k)) = _
    rw [List.take_append_of_le_length (by rw [be_len]; omega), List.take_of_length_le (by rw [be_len]; omega)]
  unfold get
  rw [e0, e1, e2, ek, if_neg (by rw [bytes_len]; omega), if_neg hk, if_neg (by rw [bytes_len]; omega), if_neg (by simp [bytes_sum]), ed]
  have hs : ((s.toNat : Nat) : Int) = s := by have := h.1; omega
  rw [hs]
  congr 1
  rcases sz_cases k with ⟨h0, _⟩ | ⟨h2, _⟩ | ⟨h4, _⟩
  · exact absurd h0 hk
  · rw [h2]
    have hv := h.2.1 h2
    have := val2 v hv
    unfold sgn
    rw [if_neg (by omega)]
    exact this
  · rw [h4]
    exact val4 v (h.2.2 h4)

theorem be_val2 (x y : Nat) (hx : x < 256) (hy : y < 256) : be 2 (sgn 2 (val [x, y])) = [x, y] := by
  rw [be2]
  simp only [val, List.foldl, sgn]
  simp; omega
theorem be_val4 (x y z u : Nat) (hx : x < 256) (hy : y < 256) (hz : z < 256) (hu : u < 256) : be 4 (sgn 4 (val [x, y, z, u])) = [x, y, z, u] := by
  rw [be4]
  simp only [val, List.foldl, sgn, true_and]
  split <;> simp <;> omega
theorem sgn_fits2 (x y : Nat) (hx : x < 256) (hy : y < 256) : 0 ≤ sgn 2 (val [x, y]) ∧ sgn 2 (val [x, y]) ≤ 65535 := by
  simp only [val, List.foldl, sgn]
  simp; omega
theorem sgn_fits4 (x y z u : Nat) (hx : x < 256) (hy : y < 256) (hz : z < 256) (hu : u < 256) : -2147483648 ≤ sgn 4 (val [x, y, z, u]) ∧ sgn 4 (val [x, y, z, u]) ≤ 2147483647 := by
  simp only [val, List.foldl, sgn, true_and]
  split <;> omega

/-- what is read has just these bytes -/
theorem bytes_get (l : List Nat) (hl : ∀ x ∈ l, x < 256) (h : (get l).err = 0) : sz (get l).kind ≠ 0 ∧ ok (get l).kind (get l).seq (get l).value ∧ bytes (get l).kind (get l).seq (get l).value = l := by
  unfold get at h ⊢
  by_cases h1 : l.length < 5
  · rw [if_pos h1] at h; cases h
  · rw [if_neg h1] at h ⊢
    by_cases h2 : sz (l.getD 0 0) = 0
    · rw [if_pos h2] at h; cases h
    · rw [if_neg h2] at h ⊢
      by_cases h3 : l.getD 2 0 ≠ sz (l.getD 0 0) ∨ l.length ≠ 5 + sz (l.getD 0 0)
      · rw [if_pos h3] at h; cases h
      · rw [if_neg h3] at h ⊢
        by_cases h4 : Crc.sum l ≠ 0
        · rw [if_pos h4] at h; cases h
        · rw [if_neg h4]
          have h4' : Crc.sum l = 0 := Classical.not_not.1 h4
          clear h h4
          rcases sz_cases (l.getD 0 0) with ⟨e, _⟩ | ⟨e, hk⟩ | ⟨e, hk⟩
          · exact absurd e h2
          · rw [e] at h3
            have hlen : l.length = 7 := by omega
            match l, hlen with
            | [a, b, c, x, y, p, q], _ =>
              simp only [List.mem_cons, List.not_mem_nil, or_false, forall_eq_or_imp, forall_eq] at hl
              obtain ⟨ha, hb, hc, hx, hy, hp, hq⟩ := hl
              have hc2 : c = 2 := by simp at h3; omega
              have e' : sz (a : Int) = 2 := e
              show sz (a : Int) ≠ 0 ∧ ok (a : Int) (b : Int) (sgn (sz (a : Int)) (val (([x, y, p, q]).take (sz (a : Int))))) ∧ bytes (a : Int) (b : Int) (sgn (sz (a : Int)) (val (([x, y, p, q]).take (sz (a : Int))))) = _
              rw [e']
              show 2 ≠ 0 ∧ ok (a : Int) (b : Int) (sgn 2 (val [x, y])) ∧ bytes (a : Int) (b : Int) (sgn 2 (val [x, y])) = _
              have he : enc (a : Int) (b : Int) (sgn 2 (val [x, y])) = [a, b, c, x, y] := by
                unfold enc
                rw [e', be_val2 x y hx hy, hc2]
                simp
              refine ⟨by decide, ⟨by omega, ?_⟩, ?_⟩
              · unfold fits
                rw [e']
                exact ⟨fun _ => sgn_fits2 x y hx hy, fun h => by omega⟩
              · unfold bytes
                rw [he]
                have hz := (Crc.sum_zero [a, b, c, x, y] p q hp hq).1 h4'
                rw [hz]
                simp; omega
          · rw [e] at h3
            have hlen : l.length = 9 := by omega
            match l, hlen with
            | [a, b, c, x, y, z, u, p, q], _ =>
              simp only [List.mem_cons, List.not_mem_nil, or_false, forall_eq_or_imp, forall_eq] at hl
              obtain ⟨ha, hb, hc, hx, hy, hz, hu, hp, hq⟩ := hl
              have hc2 : c = 4 := by simp at h3; omega
              have e' : sz (a : Int) = 4 := e
              show sz (a : Int) ≠ 0 ∧ ok (a : Int) (b : Int) (sgn (sz (a : Int)) (val (([x, y, z, u, p, q]).take (sz (a : Int))))) ∧ bytes (a : Int) (b : Int) (sgn (sz (a : Int)) (val (([x, y, z, u, p, q]).take (sz (a : Int))))) = _
              rw [e']
              show 4 ≠ 0 ∧ ok (a : Int) (b : Int) (sgn 4 (val [x, y, z, u])) ∧ bytes (a : Int) (b : Int) (sgn 4 (val [x, y, z, u])) = _
              have he : enc (a : Int) (b : Int) (sgn 4 (val [x, y, z, u])) = [a, b, c, x, y, z, u] := by
                unfold enc
                rw [e', be_val4 x y z u hx hy hz hu, hc2]
                simp
              refine ⟨by decide, ⟨by omega, ?_⟩, ?_⟩
              · unfold fits
                rw [e']
                exact ⟨fun h => by omega, fun _ => sgn_fits4 x y z u hx hy hz hu⟩
              · unfold bytes
                rw [he]
                have hz' := (Crc.sum_zero [a, b, c, x, y, z, u] p q hp hq).1 h4'
                rw [hz']
                simp; omega

/-- unlike frames have unlike bytes -/
theorem bytes_inj {k s v k' s' v' : Int} (hk : sz k ≠ 0) (h : ok k s v) (hk' : sz k' ≠ 0) (h' : ok k' s' v') (e : bytes k s v = bytes k' s' v') : k = k' ∧ s = s' ∧ v = v' := by
  have h1 := get_bytes k s v hk h
  have h2 := get_bytes k' s' v' hk' h'
  rw [e, h2] at h1
  simp only [G.mk.injEq, and_true] at h1
  exact ⟨h1.1.symm, h1.2.1.symm, h1.2.2.symm⟩

end Go.Proofs.Ytfaabjohlimnlaa.Fr
