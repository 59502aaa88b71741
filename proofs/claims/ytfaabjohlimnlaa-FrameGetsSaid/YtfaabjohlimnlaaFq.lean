/- The walk of the law FrameGets. No condition. -/
import Derived.Test.YtfaabjohlimnlaaGs
import Derived.Test.YtfaabjohlimnlaaFa
namespace Go.Proofs.Ytfaabjohlimnlaa
open Go.ChangeShapes Go.WideShapes Go.RowKit Go.Sort
set_option linter.unusedVariables false
set_option linter.unusedSimpArgs false

set_option maxRecDepth 100000 in
set_option maxHeartbeats 1000000 in
theorem gets_walk (a : Option Addr) (l : List Nat) (c : Nat) (w : World) (ha : RdB w a l) (hcl : l.length ≤ c) (hcm : c ≤ maxLen) :
    Calls Try.prog 8 #[.slice a l.length c] w fun e w' => e = .returned (.bool true) ∧ Below w.heap.size w w' := by
  by_cases hlen : 300 < l.length
  · clear ha
    have hlen' := hlen
    go_enter Try.func8, Try.ntmps8
    go_wp2_with fail
    refine (frameAnchor_any _).mono ?_
    rintro e w1 ⟨rfl, hb1⟩
    go_wp2_with fail
    go_ret
    exact ⟨rfl, hb1⟩
  · have hg := Lib.hid (Fr.bytes_get l ha.lt)
    have HG : ∀ (w' : World), Below w.heap.size w w' → Calls Try.prog 24 #[.slice a l.length c] w' fun e w2 => e = .returned (gv (Fr.get l)) ∧ Below w'.heap.size w' w2 := fun w' hb => get_any a l c w' (ha.below hb) hcl hcm (by omega)
    have HR : ∀ (w' : World), Below w.heap.size w w' → Calls Try.prog 25 #[.slice a l.length c] w' fun e w2 => e = .returned (gv (Fr.get l)) ∧ Below w'.heap.size w' w2 := fun w' hb => rget_any a l c w' (ha.below hb) hcl hcm (by omega)
    have HA := Lib.hid ha; clear ha
    have hne : 0 ≤ (Fr.get l).err ∧ (Fr.get l).err ≤ 31 := by
      unfold Fr.get
      repeat' split
      all_goals simp
    generalize Fr.get l = g at hg HG HR hne
    obtain ⟨k, s, v, n⟩ := g
    have HGH := Lib.hid HG
    have HRH := Lib.hid HR
    clear HG HR
    have hne0 : 0 ≤ n := hne.1
    have hne1 : n ≤ 31 := hne.2
    clear hne
    have hlen' : ¬ 300 < l.length := hlen
    go_enter Try.func8, Try.ntmps8
    go_wp2_with fail
    refine (frameAnchor_any _).mono ?_
    rintro e w1 ⟨rfl, hb1⟩
    go_wp2_with fail
    refine (HGH.out _ (by first | exact hb1 | exact on_alloc hb1 _)).mono ?_
    rintro e w2 ⟨rfl, hb2⟩
    unfold gv
    have hb12 : Below w.heap.size w w2 := by first | exact on_past hb1 hb2 | exact on_past (on_alloc hb1 _) hb2
    go_wp2_with fail
    refine (HRH.out _ (by first | exact hb12 | exact on_alloc hb12 _)).mono ?_
    rintro e w3 ⟨rfl, hb3⟩
    unfold gv
    obtain ⟨q0, q1, q2⟩ := after3 hb3
    have zw30 : w2.heap.size < w3.heap.size := by have := hb3.size; simp at this; omega
    have hb23 : Below w.heap.size w w3 := on_past (on_alloc hb12 _) hb3
    by_cases hn0 : n = 0
    · have h0 := hg.out hn0
      have g1 : (n == 0) = true := by simp [hn0]
      have g2 : (n != 0) = false := by simp [hn0]
      clear hn0 hne0 hne1
      have hvv : -9223372036854775808 ≤ v ∧ v ≤ 9223372036854775807 := by
        have hf := h0.2.1.2
        unfold Fr.fits at hf
        rcases Fr.sz_cases k with h | h | h
        · exact absurd h.1 h0.1
        · have := hf.1 h.1; omega
        · have := hf.2 h.1; omega
      have H0 := Lib.hid h0
      have HV := Lib.hid hvv
      clear h0 hvv
      go_wp2_with fail
      refine (put_good k s v _ H0.out.1 H0.out.2.1 HV.out.1 HV.out.2).mono ?_
      rintro e w4 ⟨A, c2, rfl, ho, hb4⟩
      have hb5 : Below w.heap.size w w4 := on_past (on_alloc hb23 _) hb4
      rw [H0.out.2.2] at ho ⊢
      have k1 : ∀ n, (convert 22 9 (.slice A l.length c2)).run Try.prog (w4.drewN n) = .ok (.string (str l)) (w4.drewN n) := fun n => conv_b (ho.rd.drew n)
      have k2 : ∀ n, (convert 22 9 (.slice a l.length c)).run Try.prog (w4.drewN n) = .ok (.string (str l)) (w4.drewN n) := fun n => conv_b ((HA.out.below hb5).drew n)
      have k3 : (convert 22 9 (.slice A l.length c2)).run Try.prog w4 = .ok (.string (str l)) w4 := conv_b ho.rd
      have k4 : (convert 22 9 (.slice a l.length c)).run Try.prog w4 = .ok (.string (str l)) w4 := conv_b (HA.out.below hb5)
      clear ho
      go_wp2_with fail
      first
        | (go_ret
           exact ⟨by simp, hb5⟩)
        | (go_quiet (fail)
           go_wp2_with fail
           go_ret
           exact ⟨rfl, bdN hb5 _⟩)
        | go_outline
    · have g1 : (n == 0) = false := by simp [hn0]
      have g2 : (n != 0) = true := by simp [hn0]
      clear hn0
      go_wp2_with fail
      go_ret
      exact ⟨rfl, on_alloc hb23 _⟩

end Go.Proofs.Ytfaabjohlimnlaa
