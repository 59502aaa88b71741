/- The walk of the law FrameApart. No condition. -/
import Derived.Test.YtfaabjohlimnlaaFa
namespace Go.Proofs.Ytfaabjohlimnlaa
open Go.ChangeShapes Go.WideShapes Go.RowKit Go.Sort
set_option linter.unusedVariables false
set_option linter.unusedSimpArgs false

set_option maxRecDepth 100000 in
set_option maxHeartbeats 1000000 in
theorem apart_nn (k s v k' s' v' : Int) (w : World) (hv : -9223372036854775808 ≤ v) (hv2 : v ≤ 9223372036854775807) (hv' : -9223372036854775808 ≤ v') (hv2' : v' ≤ 9223372036854775807) (h1 : ¬ (Fr.sz k ≠ 0 ∧ Fr.ok k s v)) (h2 : ¬ (Fr.sz k' ≠ 0 ∧ Fr.ok k' s' v')) :
    Calls Try.prog 6 #[.agg #[.int .i64 k, .int .i64 s, .int .i64 v], .agg #[.int .i64 k', .int .i64 s', .int .i64 v']] w fun e w' => e = .returned (.bool true) ∧ Below w.heap.size w w' := by
  have H1 := Lib.hid h1; clear h1
  have H2 := Lib.hid h2; clear h2
  go_enter Try.func6, Try.ntmps6
  go_wp2_with fail
  refine (frameAnchor_any _).mono ?_
  rintro e w1 ⟨rfl, hb1⟩
  obtain ⟨hc, hf, hl⟩ := bcell hb1
  go_wp2_with fail
  refine (put_bad k s v _ H1.out hv hv2).mono ?_
  rintro e w2 ⟨n1, hn1, hn1', rfl, hb2⟩
  have hb12 := Past.trans hb1 hb2
  clear hc hf hl
  obtain ⟨hc, hf, hl⟩ := bcell hb12
  go_wp2_with fail
  refine (put_bad k' s' v' _ H2.out hv' hv2').mono ?_
  rintro e w3 ⟨n2, hn2, hn2', rfl, hb3⟩
  have hb13 := Past.trans hb12 hb3
  clear hc hf hl
  obtain ⟨hc, hf, hl⟩ := bcell hb13
  have zw30 : w.heap.size < w3.heap.size := by have := hb13.size; simp at this; omega
  have zw31 : w.heap.size + 1 < w3.heap.size := by have := hb13.size; simp at this; omega

  go_wp2_with fail
  go_quiet (fail)
  go_wp2_with fail
  go_ret
  exact ⟨rfl, bdN (on_past (bself2 _ _ _) hb13) _⟩

set_option maxRecDepth 100000 in
set_option maxHeartbeats 1000000 in
theorem apart_ny (k s v k' s' v' : Int) (w : World) (hv : -9223372036854775808 ≤ v) (hv2 : v ≤ 9223372036854775807) (hv' : -9223372036854775808 ≤ v') (hv2' : v' ≤ 9223372036854775807) (h1 : ¬ (Fr.sz k ≠ 0 ∧ Fr.ok k s v)) (h2 : Fr.sz k' ≠ 0 ∧ Fr.ok k' s' v') :
    Calls Try.prog 6 #[.agg #[.int .i64 k, .int .i64 s, .int .i64 v], .agg #[.int .i64 k', .int .i64 s', .int .i64 v']] w fun e w' => e = .returned (.bool true) ∧ Below w.heap.size w w' := by
  have H1 := Lib.hid h1; clear h1
  have H2 := Lib.hid h2; clear h2
  go_enter Try.func6, Try.ntmps6
  go_wp2_with fail
  refine (frameAnchor_any _).mono ?_
  rintro e w1 ⟨rfl, hb1⟩
  obtain ⟨hc, hf, hl⟩ := bcell hb1
  go_wp2_with fail
  refine (put_bad k s v _ H1.out hv hv2).mono ?_
  rintro e w2 ⟨n1, hn1, hn1', rfl, hb2⟩
  have hb12 := Past.trans hb1 hb2
  clear hc hf hl
  obtain ⟨hc, hf, hl⟩ := bcell hb12
  go_wp2_with fail
  refine (put_good k' s' v' _ H2.out.1 H2.out.2 hv' hv2').mono ?_
  rintro e w3 ⟨A2, c2, rfl, ho2, hb3⟩
  have hb13 := Past.trans hb12 hb3
  clear hc hf hl
  obtain ⟨hc, hf, hl⟩ := bcell hb13
  have zw30 : w.heap.size < w3.heap.size := by have := hb13.size; simp at this; omega
  have zw31 : w.heap.size + 1 < w3.heap.size := by have := hb13.size; simp at this; omega

  go_wp2_with fail
  go_quiet (fail)
  go_wp2_with fail
  go_ret
  exact ⟨rfl, bdN (on_past (bself2 _ _ _) hb13) _⟩

set_option maxRecDepth 100000 in
set_option maxHeartbeats 1000000 in
theorem apart_yn (k s v k' s' v' : Int) (w : World) (hv : -9223372036854775808 ≤ v) (hv2 : v ≤ 9223372036854775807) (hv' : -9223372036854775808 ≤ v') (hv2' : v' ≤ 9223372036854775807) (h1 : Fr.sz k ≠ 0 ∧ Fr.ok k s v) (h2 : ¬ (Fr.sz k' ≠ 0 ∧ Fr.ok k' s' v')) :
    Calls Try.prog 6 #[.agg #[.int .i64 k, .int .i64 s, .int .i64 v], .agg #[.int .i64 k', .int .i64 s', .int .i64 v']] w fun e w' => e = .returned (.bool true) ∧ Below w.heap.size w w' := by
  have H1 := Lib.hid h1; clear h1
  have H2 := Lib.hid h2; clear h2
  go_enter Try.func6, Try.ntmps6
  go_wp2_with fail
  refine (frameAnchor_any _).mono ?_
  rintro e w1 ⟨rfl, hb1⟩
  obtain ⟨hc, hf, hl⟩ := bcell hb1
  go_wp2_with fail
  refine (put_good k s v _ H1.out.1 H1.out.2 hv hv2).mono ?_
  rintro e w2 ⟨A1, c1, rfl, ho1, hb2⟩
  have hb12 := Past.trans hb1 hb2
  clear hc hf hl
  obtain ⟨hc, hf, hl⟩ := bcell hb12
  go_wp2_with fail
  refine (put_bad k' s' v' _ H2.out hv' hv2').mono ?_
  rintro e w3 ⟨n2, hn2, hn2', rfl, hb3⟩
  have hb13 := Past.trans hb12 hb3
  clear hc hf hl
  obtain ⟨hc, hf, hl⟩ := bcell hb13
  have zw30 : w.heap.size < w3.heap.size := by have := hb13.size; simp at this; omega
  have zw31 : w.heap.size + 1 < w3.heap.size := by have := hb13.size; simp at this; omega

  go_wp2_with fail
  go_quiet (fail)
  go_wp2_with fail
  go_ret
  exact ⟨rfl, bdN (on_past (bself2 _ _ _) hb13) _⟩

set_option maxRecDepth 100000 in
set_option maxHeartbeats 1000000 in
theorem apart_k (k s v k' s' v' : Int) (w : World) (hv : -9223372036854775808 ≤ v) (hv2 : v ≤ 9223372036854775807) (hv' : -9223372036854775808 ≤ v') (hv2' : v' ≤ 9223372036854775807) (h1 : Fr.sz k ≠ 0 ∧ Fr.ok k s v) (h2 : Fr.sz k' ≠ 0 ∧ Fr.ok k' s' v') (hne : ¬ k = k') :
    Calls Try.prog 6 #[.agg #[.int .i64 k, .int .i64 s, .int .i64 v], .agg #[.int .i64 k', .int .i64 s', .int .i64 v']] w fun e w' => e = .returned (.bool true) ∧ Below w.heap.size w w' := by
  have H1 := Lib.hid h1; clear h1
  have H2 := Lib.hid h2; clear h2
  have EB := Lib.hid (show decide (Fr.bytes k s v = Fr.bytes k' s' v') = false by
    rw [decide_eq_false_iff_not]
    intro e
    exact hne (Fr.bytes_inj H1.out.1 H1.out.2 H2.out.1 H2.out.2 e).1)
  have q1 : (k == k') = false := by simpa using hne
  clear hne
  go_enter Try.func6, Try.ntmps6
  go_wp2_with fail
  refine (frameAnchor_any _).mono ?_
  rintro e w1 ⟨rfl, hb1⟩
  obtain ⟨hc, hf, hl⟩ := bcell hb1
  go_wp2_with fail
  refine (put_good k s v _ H1.out.1 H1.out.2 hv hv2).mono ?_
  rintro e w2 ⟨A1, c1, rfl, ho1, hb2⟩
  have hb12 := Past.trans hb1 hb2
  clear hc hf hl
  obtain ⟨hc, hf, hl⟩ := bcell hb12
  go_wp2_with fail
  refine (put_good k' s' v' _ H2.out.1 H2.out.2 hv' hv2').mono ?_
  rintro e w3 ⟨A2, c2, rfl, ho2, hb3⟩
  have hb13 := Past.trans hb12 hb3
  clear hc hf hl
  obtain ⟨hc, hf, hl⟩ := bcell hb13
  have zw30 : w.heap.size < w3.heap.size := by have := hb13.size; simp at this; omega
  have zw31 : w.heap.size + 1 < w3.heap.size := by have := hb13.size; simp at this; omega
  have ho1' := ho1.below hb3
  have k1 : ∀ n, (convert 22 9 (.slice A1 (Fr.bytes k s v).length c1)).run Try.prog (w3.drewN n) = .ok (.string (str (Fr.bytes k s v))) (w3.drewN n) := fun n => conv_b (ho1'.rd.drew n)
  have k2 : ∀ n, (convert 22 9 (.slice A2 (Fr.bytes k' s' v').length c2)).run Try.prog (w3.drewN n) = .ok (.string (str (Fr.bytes k' s' v'))) (w3.drewN n) := fun n => conv_b (ho2.rd.drew n)
  have hbq := str_beq ho1.lt ho2.lt
  rw [EB.out] at hbq
  generalize (Fr.bytes k s v).length = l1 at k1
  generalize (Fr.bytes k' s' v').length = l2 at k2
  generalize str (Fr.bytes k s v) = t1 at k1 hbq
  generalize str (Fr.bytes k' s' v') = t2 at k2 hbq
  clear ho1 ho1' ho2
  go_wp2_with fail
  go_quiet (fail)
  go_wp2_with fail
  go_ret
  exact ⟨rfl, bdN (on_past (bself2 _ _ _) hb13) _⟩

set_option maxRecDepth 100000 in
set_option maxHeartbeats 1000000 in
theorem apart_s (k s v k' s' v' : Int) (w : World) (hv : -9223372036854775808 ≤ v) (hv2 : v ≤ 9223372036854775807) (hv' : -9223372036854775808 ≤ v') (hv2' : v' ≤ 9223372036854775807) (h1 : Fr.sz k ≠ 0 ∧ Fr.ok k s v) (h2 : Fr.sz k' ≠ 0 ∧ Fr.ok k' s' v') (hne : ¬ s = s') :
    Calls Try.prog 6 #[.agg #[.int .i64 k, .int .i64 s, .int .i64 v], .agg #[.int .i64 k', .int .i64 s', .int .i64 v']] w fun e w' => e = .returned (.bool true) ∧ Below w.heap.size w w' := by
  have H1 := Lib.hid h1; clear h1
  have H2 := Lib.hid h2; clear h2
  have EB := Lib.hid (show decide (Fr.bytes k s v = Fr.bytes k' s' v') = false by
    rw [decide_eq_false_iff_not]
    intro e
    exact hne (Fr.bytes_inj H1.out.1 H1.out.2 H2.out.1 H2.out.2 e).2.1)
  have q1 : (s == s') = false := by simpa using hne
  clear hne
  go_enter Try.func6, Try.ntmps6
  go_wp2_with fail
  refine (frameAnchor_any _).mono ?_
  rintro e w1 ⟨rfl, hb1⟩
  obtain ⟨hc, hf, hl⟩ := bcell hb1
  go_wp2_with fail
  refine (put_good k s v _ H1.out.1 H1.out.2 hv hv2).mono ?_
  rintro e w2 ⟨A1, c1, rfl, ho1, hb2⟩
  have hb12 := Past.trans hb1 hb2
  clear hc hf hl
  obtain ⟨hc, hf, hl⟩ := bcell hb12
  go_wp2_with fail
  refine (put_good k' s' v' _ H2.out.1 H2.out.2 hv' hv2').mono ?_
  rintro e w3 ⟨A2, c2, rfl, ho2, hb3⟩
  have hb13 := Past.trans hb12 hb3
  clear hc hf hl
  obtain ⟨hc, hf, hl⟩ := bcell hb13
  have zw30 : w.heap.size < w3.heap.size := by have := hb13.size; simp at this; omega
  have zw31 : w.heap.size + 1 < w3.heap.size := by have := hb13.size; simp at this; omega
  have ho1' := ho1.below hb3
  have k1 : ∀ n, (convert 22 9 (.slice A1 (Fr.bytes k s v).length c1)).run Try.prog (w3.drewN n) = .ok (.string (str (Fr.bytes k s v))) (w3.drewN n) := fun n => conv_b (ho1'.rd.drew n)
  have k2 : ∀ n, (convert 22 9 (.slice A2 (Fr.bytes k' s' v').length c2)).run Try.prog (w3.drewN n) = .ok (.string (str (Fr.bytes k' s' v'))) (w3.drewN n) := fun n => conv_b (ho2.rd.drew n)
  have hbq := str_beq ho1.lt ho2.lt
  rw [EB.out] at hbq
  generalize (Fr.bytes k s v).length = l1 at k1
  generalize (Fr.bytes k' s' v').length = l2 at k2
  generalize str (Fr.bytes k s v) = t1 at k1 hbq
  generalize str (Fr.bytes k' s' v') = t2 at k2 hbq
  clear ho1 ho1' ho2
  go_wp2_with fail
  go_quiet (fail)
  go_wp2_with fail
  go_ret
  exact ⟨rfl, bdN (on_past (bself2 _ _ _) hb13) _⟩

set_option maxRecDepth 100000 in
set_option maxHeartbeats 1000000 in
theorem apart_v (k s v k' s' v' : Int) (w : World) (hv : -9223372036854775808 ≤ v) (hv2 : v ≤ 9223372036854775807) (hv' : -9223372036854775808 ≤ v') (hv2' : v' ≤ 9223372036854775807) (h1 : Fr.sz k ≠ 0 ∧ Fr.ok k s v) (h2 : Fr.sz k' ≠ 0 ∧ Fr.ok k' s' v') (hne : ¬ v = v') :
    Calls Try.prog 6 #[.agg #[.int .i64 k, .int .i64 s, .int .i64 v], .agg #[.int .i64 k', .int .i64 s', .int .i64 v']] w fun e w' => e = .returned (.bool true) ∧ Below w.heap.size w w' := by
  have H1 := Lib.hid h1; clear h1
  have H2 := Lib.hid h2; clear h2
  have EB := Lib.hid (show decide (Fr.bytes k s v = Fr.bytes k' s' v') = false by
    rw [decide_eq_false_iff_not]
    intro e
    exact hne (Fr.bytes_inj H1.out.1 H1.out.2 H2.out.1 H2.out.2 e).2.2)
  have q1 : (v == v') = false := by simpa using hne
  clear hne
  go_enter Try.func6, Try.ntmps6
  go_wp2_with fail
  refine (frameAnchor_any _).mono ?_
  rintro e w1 ⟨rfl, hb1⟩
  obtain ⟨hc, hf, hl⟩ := bcell hb1
  go_wp2_with fail
  refine (put_good k s v _ H1.out.1 H1.out.2 hv hv2).mono ?_
  rintro e w2 ⟨A1, c1, rfl, ho1, hb2⟩
  have hb12 := Past.trans hb1 hb2
  clear hc hf hl
  obtain ⟨hc, hf, hl⟩ := bcell hb12
  go_wp2_with fail
  refine (put_good k' s' v' _ H2.out.1 H2.out.2 hv' hv2').mono ?_
  rintro e w3 ⟨A2, c2, rfl, ho2, hb3⟩
  have hb13 := Past.trans hb12 hb3
  clear hc hf hl
  obtain ⟨hc, hf, hl⟩ := bcell hb13
  have zw30 : w.heap.size < w3.heap.size := by have := hb13.size; simp at this; omega
  have zw31 : w.heap.size + 1 < w3.heap.size := by have := hb13.size; simp at this; omega
  have ho1' := ho1.below hb3
  have k1 : ∀ n, (convert 22 9 (.slice A1 (Fr.bytes k s v).length c1)).run Try.prog (w3.drewN n) = .ok (.string (str (Fr.bytes k s v))) (w3.drewN n) := fun n => conv_b (ho1'.rd.drew n)
  have k2 : ∀ n, (convert 22 9 (.slice A2 (Fr.bytes k' s' v').length c2)).run Try.prog (w3.drewN n) = .ok (.string (str (Fr.bytes k' s' v'))) (w3.drewN n) := fun n => conv_b (ho2.rd.drew n)
  have hbq := str_beq ho1.lt ho2.lt
  rw [EB.out] at hbq
  generalize (Fr.bytes k s v).length = l1 at k1
  generalize (Fr.bytes k' s' v').length = l2 at k2
  generalize str (Fr.bytes k s v) = t1 at k1 hbq
  generalize str (Fr.bytes k' s' v') = t2 at k2 hbq
  clear ho1 ho1' ho2
  go_wp2_with fail
  go_quiet (fail)
  go_wp2_with fail
  go_ret
  exact ⟨rfl, bdN (on_past (bself2 _ _ _) hb13) _⟩

set_option maxRecDepth 100000 in
set_option maxHeartbeats 1000000 in
theorem apart_same (k s v : Int) (w : World) (hv : -9223372036854775808 ≤ v) (hv2 : v ≤ 9223372036854775807) (h1 : Fr.sz k ≠ 0 ∧ Fr.ok k s v) (h2 : Fr.sz k ≠ 0 ∧ Fr.ok k s v) :
    Calls Try.prog 6 #[.agg #[.int .i64 k, .int .i64 s, .int .i64 v], .agg #[.int .i64 k, .int .i64 s, .int .i64 v]] w fun e w' => e = .returned (.bool true) ∧ Below w.heap.size w w' := by
  have H1 := Lib.hid h1; clear h1
  have H2 := Lib.hid h2; clear h2
  go_enter Try.func6, Try.ntmps6
  go_wp2_with fail
  refine (frameAnchor_any _).mono ?_
  rintro e w1 ⟨rfl, hb1⟩
  obtain ⟨hc, hf, hl⟩ := bcell hb1
  go_wp2_with fail
  refine (put_good k s v _ H1.out.1 H1.out.2 hv hv2).mono ?_
  rintro e w2 ⟨A1, c1, rfl, ho1, hb2⟩
  have hb12 := Past.trans hb1 hb2
  clear hc hf hl
  obtain ⟨hc, hf, hl⟩ := bcell hb12
  go_wp2_with fail
  refine (put_good k s v _ H2.out.1 H2.out.2 hv hv2).mono ?_
  rintro e w3 ⟨A2, c2, rfl, ho2, hb3⟩
  have hb13 := Past.trans hb12 hb3
  clear hc hf hl
  obtain ⟨hc, hf, hl⟩ := bcell hb13
  have zw30 : w.heap.size < w3.heap.size := by have := hb13.size; simp at this; omega
  have zw31 : w.heap.size + 1 < w3.heap.size := by have := hb13.size; simp at this; omega
  have ho1' := ho1.below hb3
  have k1 : ∀ n, (convert 22 9 (.slice A1 (Fr.bytes k s v).length c1)).run Try.prog (w3.drewN n) = .ok (.string (str (Fr.bytes k s v))) (w3.drewN n) := fun n => conv_b (ho1'.rd.drew n)
  have k2 : ∀ n, (convert 22 9 (.slice A2 (Fr.bytes k s v).length c2)).run Try.prog (w3.drewN n) = .ok (.string (str (Fr.bytes k s v))) (w3.drewN n) := fun n => conv_b (ho2.rd.drew n)
  generalize (Fr.bytes k s v).length = l1 at k1 k2 ⊢
  generalize str (Fr.bytes k s v) = t1 at k1 k2
  clear ho1 ho1' ho2
  go_wp2_with fail
  go_quiet (fail)
  go_wp2_with fail
  go_ret
  exact ⟨rfl, bdN (on_past (bself2 _ _ _) hb13) _⟩

theorem apart_walk (k s v k' s' v' : Int) (w : World) (hv : -9223372036854775808 ≤ v) (hv2 : v ≤ 9223372036854775807) (hv' : -9223372036854775808 ≤ v') (hv2' : v' ≤ 9223372036854775807) :
    Calls Try.prog 6 #[.agg #[.int .i64 k, .int .i64 s, .int .i64 v], .agg #[.int .i64 k', .int .i64 s', .int .i64 v']] w fun e w' => e = .returned (.bool true) ∧ Below w.heap.size w w' := by
  by_cases h1 : Fr.sz k ≠ 0 ∧ Fr.ok k s v
  · by_cases h2 : Fr.sz k' ≠ 0 ∧ Fr.ok k' s' v'
    · by_cases e1 : k = k'
      · by_cases e2 : s = s'
        · by_cases e3 : v = v'
          · subst e1 e2 e3; exact apart_same k s v w hv hv2 h1 h2
          · exact apart_v k s v k' s' v' w hv hv2 hv' hv2' h1 h2 e3
        · exact apart_s k s v k' s' v' w hv hv2 hv' hv2' h1 h2 e2
      · exact apart_k k s v k' s' v' w hv hv2 hv' hv2' h1 h2 e1
    · exact apart_yn k s v k' s' v' w hv hv2 hv' hv2' h1 h2
  · by_cases h2 : Fr.sz k' ≠ 0 ∧ Fr.ok k' s' v'
    · exact apart_ny k s v k' s' v' w hv hv2 hv' hv2' h1 h2
    · exact apart_nn k s v k' s' v' w hv hv2 hv' hv2' h1 h2

end Go.Proofs.Ytfaabjohlimnlaa
