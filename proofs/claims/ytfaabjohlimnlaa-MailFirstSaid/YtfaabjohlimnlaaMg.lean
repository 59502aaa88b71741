/- The walks of great and of the anchor; no law. No condition. -/
import Derived.Test.YtfaabjohlimnlaaMr
import Derived.Test.YtfaabjohlimnlaaGq
namespace Go.Proofs.Ytfaabjohlimnlaa
open Go.ChangeShapes Go.WideShapes Go.RowKit Go.Sort
set_option linter.unusedVariables false
set_option linter.unusedSimpArgs false

/-- are texts too great to be asked -/
def greatB (rs : List Rw) : Bool := rs.any (fun r => decide (300 < r.l.length)) || decide (100 < rs.length)
theorem great_no {rs : List Rw} (h : greatB rs = false) : (∀ r ∈ rs, r.l.length ≤ 300) ∧ rs.length ≤ 100 := by
  unfold greatB at h
  simp only [Bool.or_eq_false_iff, List.any_eq_false, decide_eq_true_eq, decide_eq_false_iff_not, Nat.not_lt] at h
  exact h

set_option maxHeartbeats 1000000 in
theorem great_any (A : Option Addr) (rs : List Rw) (c : Nat) (w : World) (hr : RdR w A rs) (hcl : rs.length ≤ c) (hcm : c ≤ maxLen) :
    Calls Try.prog 27 #[.slice A rs.length c] w fun e w' => e = .returned (.bool (greatB rs)) ∧ w = w' := by
  have HR := Lib.hid hr; clear hr
  have hm : rs.length ≤ 9223372036854775807 := by unfold maxLen at hcm; omega
  go_enter Try.func27, Try.ntmps27
  go_wp2_with fail
  go_loop [7, 4] (fun s7 s4 => ∃ k : Nat, k ≤ rs.length ∧ s7 = .int .i64 k ∧ Hid (∀ i, i < k → (rs.getD i Rw.z).l.length ≤ 300)) (fun s7 _ => rs.length - (intOf s7).toNat)
  case atStart => exact ⟨0, by omega, rfl, Lib.hid (fun i hi => by omega)⟩
  case round =>
    obtain ⟨k, hkl, rfl, HK⟩ := hrel
    by_cases hlt : k < rs.length
    · obtain ⟨b, off, rfl, hbl, hcell⟩ := HR.out.at_ (by omega)
      have hx := hcell k hlt
      have hok := (HR.out.get k hlt).top
      have hcc := (HR.out.get k hlt).cap
      obtain ⟨r, hre⟩ : ∃ r, r = rs.getD k Rw.z := ⟨_, rfl⟩
      rw [← hre] at hx hok hcc
      have HRe := Lib.hid hre; clear hre hcell
      unfold Rw.v at hx
      have hlm : r.l.length ≤ 9223372036854775807 := by unfold maxLen at hok; omega
      by_cases h3 : 300 < r.l.length
      · have HF := Lib.hid (show greatB rs = true by
          unfold greatB
          rw [Bool.or_eq_true]; left
          rw [List.any_eq_true]
          refine ⟨r, ?_, by simpa using h3⟩
          rw [HRe.out]; simp [List.getD, hlt])
        go_wp2_with fail
        go_ret
        exact ⟨ret_bool HF.out.symm, rfl⟩
      · go_wp2_with fail
        go_round
        case rel => exact ⟨k + 1, by omega, by go_num, Lib.hid (fun i hi => by
          by_cases e : i = k
          · subst e; rw [← HRe.out]; omega
          · exact HK.out i (by omega))⟩
        case measure => simp [intOf]; omega
    · have HF := Lib.hid (show greatB rs = decide (100 < rs.length) by
        unfold greatB
        have : rs.any (fun r => decide (300 < r.l.length)) = false := by
          rw [List.any_eq_false]
          intro r hr
          obtain ⟨i, hi, rfl⟩ := List.getElem_of_mem hr
          have := HK.out i (by omega)
          simp [List.getD, hi] at this
          simpa using this
        rw [this, Bool.false_or])
      go_wp2_with fail
      go_ret
      exact ⟨ret_bool (by rw [HF.out, Bool.eq_iff_iff]; simp; omega), rfl⟩

theorem ok_any (k s v : Int) (hs : 0 ≤ s ∧ s ≤ 255) (h2 : Fr.sz k = 2 → 0 ≤ v ∧ v ≤ 65535) (h4 : Fr.sz k = 4 → -2147483648 ≤ v ∧ v ≤ 2147483647) : Fr.ok k s v := ⟨hs, h2, h4⟩
theorem anchorSort : ∃ m : Ml.M, Ml.sort 258 [Fr.bytes 3 2 (-5), Fr.bytes 4 1 0] = m ∧ m.has 3 = true ∧ m.val 3 = -5 ∧ m.stale = 1 ∧ m.has 4 = false := by
  have e : Ml.sort 258 [Fr.bytes 3 2 (-5), Fr.bytes 4 1 0] = Ml.take 2 (Ml.take 2 (Ml.none_ 0) (Fr.get (Fr.bytes 3 2 (-5)))) (Fr.get (Fr.bytes 4 1 0)) := (show ∀ a b, Ml.sort 258 [a, b] = Ml.take 2 (Ml.take 2 (Ml.none_ 0) (Fr.get a)) (Fr.get b) from fun _ _ => rfl) _ _
  have o3 : Fr.ok 3 2 (-5) := ok_any _ _ _ (by omega) (fun h => absurd h (by decide)) (fun _ => by omega)
  have o4 : Fr.ok 4 1 0 := ok_any _ _ _ (by omega) (fun h => absurd h (by decide)) (fun _ => by omega)
  refine ⟨_, rfl, ?_⟩
  rw [e, Ml.take_bytes 3 2 (-5) _ (by decide) o3 rfl, Fr.get_bytes 4 1 0 (by decide) o4, Ml.take_stale rfl (by decide)]
  exact ⟨rfl, rfl, rfl, rfl⟩

/-- two texts in a block of their own -/
theorem RdR.two (w : World) (r q : Rw) (hr : RwOk w r) (hq : RwOk w q) (T : TypeId) : RdR (w.alloc (.cells #[r.v, q.v] T)) (some ⟨w.heap.size, 0, none⟩) [r, q] := by
  refine ⟨fun x hx => ?_, fun _ => ⟨w.heap.size, 0, rfl, by simp, fun i hi => ?_⟩⟩
  · simp only [List.mem_cons, List.not_mem_nil, or_false] at hx
    rcases hx with rfl | rfl
    · exact hr.below (bself w _)
    · exact hq.below (bself w _)
  · rw [World.cell?_alloc_new]
    have : i = 0 ∨ i = 1 := by simp at hi; omega
    rcases this with rfl | rfl <;> rfl
theorem Own.rw_ {w : World} {base : Nat} {A : Option Addr} {c : Nat} {l : List Nat} (h : Own w base A c l) (h0 : 0 < l.length) : RwOk w ⟨A, l, c⟩ := by
  obtain ⟨b, off, e, _⟩ := h.rd.at_ h0
  exact ⟨h.rd, (fun hn => by rw [show A = none from hn] at e; cases e), h.cap.1, h.cap.2⟩

set_option maxRecDepth 100000 in
set_option maxHeartbeats 1000000 in
theorem mailAnchor_any (w : World) : Calls Try.prog 26 #[] w fun e w' => e = .returned (.bool true) ∧ Below w.heap.size w w' := by
  obtain ⟨mm, hmm, g3, v3, st, g4⟩ := anchorSort
  have HM := Lib.hid hmm; clear hmm
  have hv : mm.v = mv mm.has mm.val mm.bad mm.stale mm.twice mm.beyond := rfl
  go_enter Try.func26, Try.ntmps26
  go_wp2_with fail
  refine (put_good 3 2 (-5) _ (by decide) (ok_any _ _ _ (by omega) (fun h => absurd h (by decide)) (fun _ => by omega)) (by decide) (by decide)).mono ?_
  rintro e w1 ⟨A, c, rfl, ho, hb⟩
  have HO1 := Lib.hid ho; clear ho
  have HB1 := Lib.hid hb
  go_wp2_with fail
  refine (put_good 4 1 0 _ (by decide) (ok_any _ _ _ (by omega) (fun h => absurd h (by decide)) (fun _ => by omega)) (by decide) (by decide)).mono ?_
  rintro e w2 ⟨A2, c2, rfl, ho2, hb2⟩
  have HO2 := Lib.hid ho2; clear ho2
  have HB2 := Lib.hid hb2
  have HB12 := Lib.hid (hb.trans (hb2.mono hb.size))
  clear hb hb2
  have HL1 := Lib.hid (show 0 < (Fr.bytes 3 2 (-5)).length ∧ (Fr.bytes 3 2 (-5)).length ≤ 9 by rw [Fr.bytes_len]; decide)
  have HL2 := Lib.hid (show 0 < (Fr.bytes 4 1 0).length ∧ (Fr.bytes 4 1 0).length ≤ 9 by rw [Fr.bytes_len]; decide)
  have HR := Lib.hid (RdR.two w2 ⟨A, Fr.bytes 3 2 (-5), c⟩ ⟨A2, Fr.bytes 4 1 0, c2⟩ ((HO1.out.below HB2.out).rw_ HL1.out.1) (HO2.out.rw_ HL2.out.1) 22)
  have HS := Lib.hid (sort_any 258 (some ⟨w2.heap.size, 0, none⟩) _ 2 _ HR.out (by simp) (by simp [maxLen]) (by simp) (by simp only [List.mem_cons, List.not_mem_nil, or_false, forall_eq_or_imp, forall_eq]; have := HL1.out.2; have := HL2.out.2; omega))
  replace HS : Hid (Calls Try.prog 28 #[.int .i64 258, .slice (some ⟨w2.heap.size, 0, none⟩) 2 2] (w2.alloc (.cells #[.slice A (Fr.bytes 3 2 (-5)).length c, .slice A2 (Fr.bytes 4 1 0).length c2] 22)) fun e w' => e = .returned mm.v ∧ Below (w2.alloc (.cells #[.slice A (Fr.bytes 3 2 (-5)).length c, .slice A2 (Fr.bytes 4 1 0).length c2] 22)).heap.size (w2.alloc (.cells #[.slice A (Fr.bytes 3 2 (-5)).length c, .slice A2 (Fr.bytes 4 1 0).length c2] 22)) w') :=
    Lib.hid (by have := HS.out; rw [show texts [⟨A, Fr.bytes 3 2 (-5), c⟩, ⟨A2, Fr.bytes 4 1 0, c2⟩] = [Fr.bytes 3 2 (-5), Fr.bytes 4 1 0] from rfl, HM.out] at this; exact this)
  clear HR HM
  go_wp2_with fail
  refine HS.out.mono ?_
  rintro e w3 ⟨rfl, hb3⟩
  have HB3 := Lib.hid (on_past (on_alloc HB12.out _) hb3)
  clear hb3
  rw [hv]
  have HOf := Lib.hid (fun w => of_in mm.has mm.val mm.bad mm.stale mm.twice mm.beyond 3 w (by omega))
  replace HOf : Hid (∀ w, Calls Try.prog 31 #[mv mm.has mm.val mm.bad mm.stale mm.twice mm.beyond, .int .i64 3] w fun e w' => e = .returned (.tuple #[.int .i64 (-5), .bool true]) ∧ Below w.heap.size w w') := Lib.hid (by have := HOf.out; rw [g3, v3] at this; exact this)
  unfold mv at HOf ⊢
  clear hv
  generalize mm.has 0 = x0 at HOf ⊢
  generalize mm.has 1 = x1 at HOf ⊢
  generalize mm.has 2 = x2 at HOf ⊢
  generalize mm.has 5 = x5 at HOf ⊢
  generalize mm.val 0 = y0 at HOf ⊢
  generalize mm.val 1 = y1 at HOf ⊢
  generalize mm.val 2 = y2 at HOf ⊢
  generalize mm.val 4 = y4 at HOf ⊢
  generalize mm.val 5 = y5 at HOf ⊢
  generalize mm.bad = z0 at HOf ⊢
  generalize mm.twice = z2 at HOf ⊢
  generalize mm.beyond = z3 at HOf ⊢
  have st' : ((mm.stale : Nat) : Int) = 1 := by rw [st]; rfl
  rw [g3, v3, st', g4] at HOf ⊢
  clear g3 v3 st st' g4 HS
  clear mm
  go_wp2_with fail
  refine (HOf.out _).mono ?_
  rintro e w4 ⟨rfl, hb4⟩
  have q13 : w4.cell? ⟨w3.heap.size, 13, none⟩ = some (.int .i64 1) := (hb4.cell (p := ⟨w3.heap.size, 13, none⟩) (by simp)).trans (by rw [World.cell?_alloc_new]; rfl)
  have q4 : w4.cell? ⟨w3.heap.size, 4, none⟩ = some (.bool false) := (hb4.cell (p := ⟨w3.heap.size, 4, none⟩) (by simp)).trans (by rw [World.cell?_alloc_new]; rfl)
  have hT := on_past (on_alloc HB3.out _) hb4
  clear hb4
  go_wp2_with fail
  go_ret
  exact ⟨rfl, hT⟩

end Go.Proofs.Ytfaabjohlimnlaa
