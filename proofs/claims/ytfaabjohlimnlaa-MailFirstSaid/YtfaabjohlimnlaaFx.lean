/- The walk of frame's Put, whatever comes in. No condition. -/
import Derived.Test.YtfaabjohlimnlaaFw
namespace Go.Proofs.Ytfaabjohlimnlaa
open Go.ChangeShapes Go.WideShapes Go.RowKit Go.Sort
set_option linter.unusedVariables false
set_option linter.unusedSimpArgs false

theorem put_none (k s v : Int) (w : World) (h : Fr.sz k = 0) :
    Calls Try.prog 22 #[.agg #[.int .i64 k, .int .i64 s, .int .i64 v]] w fun e w' => e = .returned (.tuple #[.slice none 0 0, .int .i64 30]) ∧ Below w.heap.size w w' := by
  have hS : ∀ w, Calls Try.prog 35 #[.int .i64 k] w fun e w' => e = .returned (.int .i64 0) ∧ w = w' := fun w => by
    have := size_any k w
    rw [h] at this
    exact this
  have HS := Lib.hid hS; clear hS h
  go_enter Try.func22, Try.ntmps22
  go_wp2_with ((go_at_call 35; refine (HS.out _).mono ?_; rintro e w' ⟨rfl, rfl⟩))
  go_ret2
  exact ⟨rfl, bself _ _⟩

set_option maxRecDepth 100000 in
set_option maxHeartbeats 1000000 in
theorem put_out (k s v : Int) (w : World) (hk : 1 ≤ k ∧ k ≤ 5) (hv : -9223372036854775808 ≤ v) (hv' : v ≤ 9223372036854775807) (h : ¬ Fr.ok k s v) :
    Calls Try.prog 22 #[.agg #[.int .i64 k, .int .i64 s, .int .i64 v]] w fun e w' => e = .returned (.tuple #[.slice none 0 0, .int .i64 10]) ∧ Below w.heap.size w w' := by
  obtain ⟨n, hn0, hS⟩ : ∃ n : Int, (n == 0) = false ∧ ∀ w, Calls Try.prog 35 #[.int .i64 k] w fun e w' => e = .returned (.int .i64 n) ∧ w = w' :=
    ⟨_, by rcases Fr.sz_cases k with h | h | h <;> simp <;> omega, fun w => size_any k w⟩
  have HS := Lib.hid hS; clear hS
  by_cases h0 : s < 0
  · have d1 : decide (s < 0) = true := by simpa using h0
    clear h
    go_enter Try.func22, Try.ntmps22
    go_wp2_with ((go_at_call 35; refine (HS.out _).mono ?_; rintro e w' ⟨rfl, rfl⟩))
    go_quiet (fail)
    go_wp2_with fail
    go_ret2
    exact ⟨rfl, bdN (bself _ _) _⟩
  · have d1 : decide (s < 0) = false := by simpa using h0
    by_cases h1 : 256 ≤ s
    · have d2 : decide (256 ≤ s) = true := by simpa using h1
      clear h
      go_enter Try.func22, Try.ntmps22
      go_wp2_with ((go_at_call 35; refine (HS.out _).mono ?_; rintro e w' ⟨rfl, rfl⟩))
      go_quiet (fail)
      go_wp2_with fail
      go_ret2
      exact ⟨rfl, bdN (bself _ _) _⟩
    · have d2 : decide (256 ≤ s) = false := by simpa using h1
      have hf : ¬ Fr.fits (Fr.sz k) v := fun hf => h ⟨by omega, hf⟩
      obtain ⟨b, hb0, hB⟩ : ∃ b : Int, (b != v) = true ∧ ∀ w, Calls Try.prog 36 #[.int .i64 k, .int .i64 v] w fun e w' => e = .returned (.int .i64 b) ∧ w = w' := by
        rcases Fr.sz_cases k with h | ⟨e, h⟩ | ⟨e, h⟩
        · omega
        · refine ⟨_, ?_, fun w => back_u k v w (by omega) hv hv'⟩
          rw [bne_iff_ne]
          intro hbv
          apply hf
          rw [e]
          exact ⟨fun _ => by omega, fun h4 => by omega⟩
        · refine ⟨_, ?_, fun w => back_s k v w h hv hv'⟩
          rw [bne_iff_ne]
          intro hbv
          apply hf
          rw [e]
          exact ⟨fun h2 => by omega, fun _ => by omega⟩
      have HB := Lib.hid hB; clear hB
      clear h hf
      go_enter Try.func22, Try.ntmps22
      go_wp2_with ((go_at_call 35; refine (HS.out _).mono ?_; rintro e w' ⟨rfl, rfl⟩))
      go_quiet ((go_at_call 36; exact quiet_eq (HB.out _)))
      go_wp2_with fail
      go_ret2
      exact ⟨rfl, bdN (bself _ _) _⟩

theorem put_any (k s v : Int) (w : World) (hv : -9223372036854775808 ≤ v) (hv' : v ≤ 9223372036854775807) :
    Calls Try.prog 22 #[.agg #[.int .i64 k, .int .i64 s, .int .i64 v]] w (PutRet w k s v) := by
  by_cases h0 : Fr.sz k = 0
  · exact (put_none k s v w h0).mono fun e w' ⟨he, hb⟩ => ⟨hb, .inl ⟨h0, he⟩⟩
  · by_cases h1 : Fr.ok k s v
    · have hk : 1 ≤ k ∧ k ≤ 5 := by rcases Fr.sz_cases k with h | h | h <;> omega
      have hs := h1.1
      obtain ⟨k', rfl⟩ : ∃ k' : Nat, k = k' := ⟨k.toNat, by omega⟩
      obtain ⟨s', rfl⟩ : ∃ s' : Nat, s = s' := ⟨s.toNat, by omega⟩
      rcases Fr.sz_cases (k' : Int) with h | ⟨e, h⟩ | ⟨e, h⟩
      · exact absurd h.1 h0
      · have hf := h1.2.1 e
        have eb : Fr.bytes k' s' v = Crc.seal_ ([k', s', 2] ++ Fr.be 2 v) := by
          unfold Fr.bytes Crc.seal_ Fr.enc
          rw [e]; rfl
        refine (put2 k' s' v w (by omega) (by omega) hf.1 hf.2).mono fun e w' ⟨A, c, he, ho, hb⟩ => ⟨hb, .inr (.inr ⟨h0, h1, A, c, ?_, ?_⟩)⟩
        · rw [eb]; exact he
        · rw [eb]; exact ho
      · have hf := h1.2.2 e
        have eb : Fr.bytes k' s' v = Crc.seal_ ([k', s', 4] ++ Fr.be 4 v) := by
          unfold Fr.bytes Crc.seal_ Fr.enc
          rw [e]; rfl
        refine (put4 k' s' v w (by omega) (by omega) hf.1 hf.2).mono fun e w' ⟨A, c, he, ho, hb⟩ => ⟨hb, .inr (.inr ⟨h0, h1, A, c, ?_, ?_⟩)⟩
        · rw [eb]; exact he
        · rw [eb]; exact ho
    · have hk : 1 ≤ k ∧ k ≤ 5 := by rcases Fr.sz_cases k with h | h | h <;> omega
      exact (put_out k s v w hk hv hv' h1).mono fun e w' ⟨he, hb⟩ => ⟨hb, .inr (.inl ⟨h0, h1, he⟩)⟩

end Go.Proofs.Ytfaabjohlimnlaa
