/- The reference's Put of frames, and the walk of the law FramePuts. No condition. -/
import Derived.Test.YtfaabjohlimnlaaGt
import Derived.Test.YtfaabjohlimnlaaFh
namespace Go.Proofs.Ytfaabjohlimnlaa
open Go.ChangeShapes Go.WideShapes Go.RowKit Go.Sort
set_option linter.unusedVariables false
set_option linter.unusedSimpArgs false

theorem rput_good (k s v : Int) (w : World) (h0 : Fr.sz k ≠ 0) (h1 : Fr.ok k s v) :
    Calls Try.prog 23 #[.agg #[.int .i64 k, .int .i64 s, .int .i64 v]] w fun e w' => ∃ A c, e = .returned (.tuple #[.slice A (Fr.bytes k s v).length c, .int .i64 0]) ∧ Own w' w.heap.size A c (Fr.bytes k s v) ∧ Below w.heap.size w w' := by
  have hk : 1 ≤ k ∧ k ≤ 5 := by rcases Fr.sz_cases k with h | h | h <;> omega
  have hs := h1.1
  obtain ⟨k', rfl⟩ : ∃ k' : Nat, k = k' := ⟨k.toNat, by omega⟩
  obtain ⟨s', rfl⟩ : ∃ s' : Nat, s = s' := ⟨s.toNat, by omega⟩
  rcases Fr.sz_cases (k' : Int) with h | ⟨e, h⟩ | ⟨e, h⟩
  · exact absurd h.1 h0
  · have hf := h1.2.1 e
    have eb : Fr.bytes k' s' v = Crc.seal_ ([k', s', 2] ++ Fr.be 2 v) := by
      unfold Fr.bytes Crc.seal_ Fr.enc
      rw [e]; rfl
    rw [eb]
    obtain ⟨u, rfl⟩ : ∃ u : Nat, v = u := ⟨v.toNat, by omega⟩
    exact rput2 k' s' u w (by omega) (by omega) (by omega)
  · have hf := h1.2.2 e
    have eb : Fr.bytes k' s' v = Crc.seal_ ([k', s', 4] ++ Fr.be 4 v) := by
      unfold Fr.bytes Crc.seal_ Fr.enc
      rw [e]; rfl
    rw [eb]
    by_cases hn : v < 0
    · exact rput4n k' s' v w (by omega) (by omega) hf.1 hn
    · exact rput4p k' s' v w (by omega) (by omega) (by omega) hf.2

/-- one that may not be isn't: the same error on both sides -/
theorem puts_err (k s v : Int) (h : ¬ (Fr.sz k ≠ 0 ∧ Fr.ok k s v)) (hv : -9223372036854775808 ≤ v) (hv' : v ≤ 9223372036854775807) :
    ∃ n : Int, 0 ≤ n ∧ n ≤ 30 ∧ (n != 0) = true ∧
      (∀ w, Calls Try.prog 22 #[.agg #[.int .i64 k, .int .i64 s, .int .i64 v]] w fun e w' => e = .returned (.tuple #[.slice none 0 0, .int .i64 n]) ∧ Below w.heap.size w w') ∧
      (∀ w, Calls Try.prog 23 #[.agg #[.int .i64 k, .int .i64 s, .int .i64 v]] w fun e w' => e = .returned (.tuple #[.slice none 0 0, .int .i64 n]) ∧ Below w.heap.size w w') := by
  by_cases h0 : Fr.sz k = 0
  · exact ⟨30, by decide, by decide, rfl, fun w => put_none k s v w h0, fun w => rput_kind k s v w h0⟩
  · have h1 : ¬ Fr.ok k s v := fun h1 => h ⟨h0, h1⟩
    have hk : 1 ≤ k ∧ k ≤ 5 := by rcases Fr.sz_cases k with h | h | h <;> omega
    refine ⟨10, by decide, by decide, rfl, fun w => put_out k s v w hk hv hv' h1, fun w => ?_⟩
    rcases Fr.sz_cases k with h2 | h2 | h2
    · exact absurd h2.1 h0
    · exact rput_range k s v w 2 (.inl rfl) h2.1 h1 hv hv'
    · exact rput_range k s v w 4 (.inr rfl) h2.1 h1 hv hv'

set_option maxRecDepth 100000 in
set_option maxHeartbeats 1000000 in
theorem puts_bad (k s v : Int) (w : World) (h : ¬ (Fr.sz k ≠ 0 ∧ Fr.ok k s v)) (hv : -9223372036854775808 ≤ v) (hv' : v ≤ 9223372036854775807) :
    Calls Try.prog 7 #[.agg #[.int .i64 k, .int .i64 s, .int .i64 v]] w fun e w' => e = .returned (.bool true) ∧ Below w.heap.size w w' := by
  obtain ⟨n, hn0, hn1, hn2, hP, hR⟩ := puts_err k s v h hv hv'
  have HP := Lib.hid hP
  have HR := Lib.hid hR
  clear hP hR h
  go_enter Try.func7, Try.ntmps7
  go_wp2_with fail
  refine (frameAnchor_any _).mono ?_
  rintro e w1 ⟨rfl, hb1⟩
  obtain ⟨q0, q1, q2⟩ := after3 hb1
  have zw10 : w.heap.size < w1.heap.size := by have := hb1.size; simp at this; omega
  have hb0 : Below w.heap.size w w1 := on_past (bself _ _) hb1
  go_wp2_with fail
  refine (HP.out _).mono ?_
  rintro e w2 ⟨rfl, hb2⟩
  have r0 := (Below.cell (p := ⟨w.heap.size, 0, none⟩) hb2 zw10).trans q0
  have r1 := (Below.cell (p := ⟨w.heap.size, 1, none⟩) hb2 zw10).trans q1
  have r2 := (Below.cell (p := ⟨w.heap.size, 2, none⟩) hb2 zw10).trans q2
  have zw20 : w.heap.size < w2.heap.size := Nat.lt_of_lt_of_le zw10 hb2.size
  have hb02 : Below w.heap.size w w2 := on_past hb0 hb2
  clear q0 q1 q2
  go_wp2_with fail
  refine (HR.out _).mono ?_
  rintro e w3 ⟨rfl, hb3⟩
  have hb03 : Below w.heap.size w w3 := by first | exact on_past hb02 hb3 | exact on_past (on_alloc hb02 _) hb3
  have k0 : ∀ w, (convert 22 9 (.slice none 0 0)).run Try.prog w = .ok (.string (str [])) w := fun w => conv_b (l := []) (RdB.nil w none)
  clear r0 r1 r2
  go_wp2_with fail
  first
    | (go_ret
       exact ⟨rfl, hb03⟩)
    | (go_quiet (fail)
       go_wp2_with fail
       go_ret
       exact ⟨rfl, bdN hb03 _⟩)
    | go_outline

set_option maxRecDepth 100000 in
set_option maxHeartbeats 1000000 in
theorem puts_good (k s v : Int) (w : World) (h0 : Fr.sz k ≠ 0) (h1 : Fr.ok k s v) (hv : -9223372036854775808 ≤ v) (hv' : v ≤ 9223372036854775807) :
    Calls Try.prog 7 #[.agg #[.int .i64 k, .int .i64 s, .int .i64 v]] w fun e w' => e = .returned (.bool true) ∧ Below w.heap.size w w' := by
  have HP := Lib.hid (fun w => put_good k s v w h0 h1 hv hv')
  have HR := Lib.hid (fun w => rput_good k s v w h0 h1)
  have HG := Lib.hid (Fr.get_bytes k s v h0 h1)
  have HL := Lib.hid (show (Fr.bytes k s v).length ≤ 9 by rw [Fr.bytes_len]; rcases Fr.sz_cases k with h | h | h <;> omega)
  clear h0 h1
  generalize Fr.bytes k s v = l at HP HR HG HL
  go_enter Try.func7, Try.ntmps7
  go_wp2_with fail
  refine (frameAnchor_any _).mono ?_
  rintro e w1 ⟨rfl, hb1⟩
  obtain ⟨q0, q1, q2⟩ := after3 hb1
  have zw10 : w.heap.size < w1.heap.size := by have := hb1.size; simp at this; omega
  have hb0 : Below w.heap.size w w1 := on_past (bself _ _) hb1
  go_wp2_with fail
  refine (HP.out _).mono ?_
  rintro e w2 ⟨A2, c2, rfl, ho2, hb2⟩
  have HO2 := Lib.hid ho2
  clear ho2
  have r0 := (Below.cell (p := ⟨w.heap.size, 0, none⟩) hb2 zw10).trans q0
  have r1 := (Below.cell (p := ⟨w.heap.size, 1, none⟩) hb2 zw10).trans q1
  have r2 := (Below.cell (p := ⟨w.heap.size, 2, none⟩) hb2 zw10).trans q2
  have zw20 : w.heap.size < w2.heap.size := Nat.lt_of_lt_of_le zw10 hb2.size
  have hb02 : Below w.heap.size w w2 := on_past hb0 hb2
  clear q0 q1 q2
  go_wp2_with fail
  refine (HR.out _).mono ?_
  rintro e w3 ⟨A3, c3, rfl, ho3, hb3⟩
  have hb03 : Below w.heap.size w w3 := by first | exact on_past hb02 hb3 | exact on_past (on_alloc hb02 _) hb3
  have s0 := (Below.cell (p := ⟨w.heap.size, 0, none⟩) hb3 zw20).trans r0
  have s1 := (Below.cell (p := ⟨w.heap.size, 1, none⟩) hb3 zw20).trans r1
  have s2 := (Below.cell (p := ⟨w.heap.size, 2, none⟩) hb3 zw20).trans r2
  have zw30 : w.heap.size < w3.heap.size := Nat.lt_of_lt_of_le zw20 hb3.size
  clear r0 r1 r2
  have ho23 := HO2.out.below hb3
  have HO3 := Lib.hid ho23
  have hc2 := HO2.out.cap
  have k1 : (convert 22 9 (.slice A2 l.length c2)).run Try.prog w3 = .ok (.string (str l)) w3 := conv_b ho23.rd
  have k2 : (convert 22 9 (.slice A3 l.length c3)).run Try.prog w3 = .ok (.string (str l)) w3 := conv_b ho3.rd
  clear ho23 ho3
  go_wp2_with fail
  clear k1 k2
  refine (get_any A2 l c2 _ HO3.out.rd hc2.1 hc2.2 (by have := HL.out; omega)).mono ?_
  rw [HG.out]
  rintro e w4 ⟨rfl, hb4⟩
  unfold gv
  have t0 := (Below.cell (p := ⟨w.heap.size, 0, none⟩) hb4 zw30).trans s0
  have t1 := (Below.cell (p := ⟨w.heap.size, 1, none⟩) hb4 zw30).trans s1
  have t2 := (Below.cell (p := ⟨w.heap.size, 2, none⟩) hb4 zw30).trans s2
  have zw40 : w.heap.size < w4.heap.size := Nat.lt_of_lt_of_le zw30 hb4.size
  have hb04 : Below w.heap.size w w4 := on_past hb03 hb4
  clear s0 s1 s2
  go_wp2_with fail
  first
    | (go_ret
       exact ⟨by first | rfl | simp, on_alloc hb04 _⟩)
    | (go_quiet (fail)
       go_wp2_with fail
       go_ret
       exact ⟨rfl, bdN (on_alloc hb04 _) _⟩)
    | go_outline

theorem puts_walk (k s v : Int) (w : World) (hv : -9223372036854775808 ≤ v) (hv' : v ≤ 9223372036854775807) :
    Calls Try.prog 7 #[.agg #[.int .i64 k, .int .i64 s, .int .i64 v]] w fun e w' => e = .returned (.bool true) ∧ Below w.heap.size w w' := by
  by_cases h : Fr.sz k ≠ 0 ∧ Fr.ok k s v
  · exact puts_good k s v w h.1 h.2 hv hv'
  · exact puts_bad k s v w h hv hv'

end Go.Proofs.Ytfaabjohlimnlaa
