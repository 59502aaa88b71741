/- The walk of the law MailAfter, where something is put in. No condition. -/
import Derived.Test.YtfaabjohlimnlaaMy
namespace Go.Proofs.Ytfaabjohlimnlaa
open Go.ChangeShapes Go.WideShapes Go.RowKit Go.Sort
set_option linter.unusedVariables false
set_option linter.unusedSimpArgs false

set_option maxRecDepth 100000 in
set_option maxHeartbeats 2000000 in
theorem after_other (cycle : Int) (b off : Nat) (J : Option Addr) (p q : List Rw) (c : Nat) (l : List Nat) (d : Nat) (w : World) (hr : RdR w (some ⟨b, off, none⟩) (p ++ q)) (hcl : (p ++ q).length ≤ c) (hcm : c ≤ maxLen) (hj : RdB w J l) (hJn : J = none → d = 0) (hdl : l.length ≤ d) (hdm : d ≤ maxLen)
    (hcy : -9223372036854775808 ≤ cycle) (hcy' : cycle ≤ 9223372036854775807) (hg : greatB (p ++ q) = false) (h31 : (p ++ q).length ≤ 31) (hl : l.length ≤ 300) (he : (Fr.get l).err = 0) (hs : (Fr.get l).seq ≠ cycle % 256) (hpc : p.length < c) :
    Calls Try.prog 12 #[.int .i64 cycle, .slice (some ⟨b, off, none⟩) (p ++ q).length c, .int .i64 p.length, .slice J l.length d] w fun e w' => e = .returned (.bool true) ∧ Below w.heap.size w w' := by
  obtain ⟨hls, _⟩ := great_no hg
  have HR := Lib.hid hr; clear hr
  have HSq := Lib.hid (fun w => seq_any cycle w hcy hcy')
  have HJ := Lib.hid (show RwOk w ⟨J, l, d⟩ from ⟨hj, hJn, hdl, hdm⟩)
  have HG := Lib.hid (fun w' (hb : Below w.heap.size w w') => great_any (some ⟨b, off, none⟩) (p ++ q) c w' (HR.out.below hb) hcl hcm)
  rw [hg, List.length_append] at HG
  have HGet := Lib.hid (fun w' (hb : Below w.heap.size w w') => get_any J l d w' (hj.below hb) hdl hdm (by omega))
  have HS1 := Lib.hid (fun w' (hb : Below w.heap.size w w') => sort_any cycle (some ⟨b, off, none⟩) (p ++ q) c w' (HR.out.below hb) hcl hcm (by omega) (fun r hr => Nat.le_trans (hls r hr) (by omega)))
  have hls2 : ∀ r ∈ p ++ [⟨J, l, d⟩] ++ q, r.l.length ≤ 1000000 := by
    intro r hr
    simp only [List.mem_append, List.mem_singleton] at hr
    rcases hr with (hr | rfl) | hr
    · exact Nat.le_trans (hls r (List.mem_append_left _ hr)) (by omega)
    · show l.length ≤ _; omega
    · exact Nat.le_trans (hls r (List.mem_append_right _ hr)) (by omega)
  have HLS2 := Lib.hid hls2; clear hls2 hls
  have hoff := Ml.sort_after cycle (texts p) (texts q) l (fun h => hs h.2) (by rw [List.length_append, texts_len, texts_len]; rw [List.length_append] at h31; omega)
  rw [← texts_append, show texts p ++ l :: texts q = texts (p ++ [⟨J, l, d⟩] ++ q) by simp [texts]] at hoff
  obtain ⟨m1, HM1⟩ : ∃ m1, Hid (Ml.sort cycle (texts (p ++ q)) = m1) := ⟨_, Lib.hid rfl⟩
  obtain ⟨m2, HM2⟩ : ∃ m2, Hid (Ml.sort cycle (texts (p ++ [⟨J, l, d⟩] ++ q)) = m2) := ⟨_, Lib.hid rfl⟩
  rw [HM1.out, HM2.out] at hoff
  rw [HM1.out, List.length_append] at HS1
  have hle1 := Ml.sort_le cycle (texts (p ++ q))
  have hle2 := Ml.sort_le cycle (texts (p ++ [⟨J, l, d⟩] ++ q))
  rw [HM1.out] at hle1
  rw [HM2.out] at hle2
  obtain ⟨h1, h2, h3, h4⟩ := hoff
  have HOff := Lib.hid (show m2.has = m1.has ∧ m2.val = m1.val ∧ m2.twice = m1.twice from ⟨h1, h2, h3⟩)
  have H4 := Lib.hid h4
  have b1 : m1.bad ≤ 32 := hle1.1
  have b2 : m1.stale ≤ 32 := hle1.2.1
  have b3 : m2.bad ≤ 32 := hle2.1
  have b4 : m2.stale ≤ 32 := hle2.2.1
  clear h1 h2 h3 h4 hg hj hle1 hle2
  generalize Fr.get l = gg at HGet he hs
  obtain ⟨gk, gs, gv', gn⟩ := gg
  replace he : gn = 0 := he
  subst he
  replace hs : gs ≠ cycle % 256 := hs
  have hz : (gs == cycle % 256) = false := by simpa using hs
  clear hs
  rw [List.length_append] at hcl h31 ⊢
  have hl' : ¬ 300 < l.length := by omega
  have h31' : ¬ 31 < p.length + q.length := by omega
  go_enter Try.func12, Try.ntmps12
  go_wp2_with fail
  refine (mailAnchor_any _).mono ?_
  rintro e w1 ⟨rfl, hb1⟩
  go_wp2_with fail
  refine (HG.out _ hb1).mono ?_
  rintro e w2 ⟨rfl, rfl⟩
  go_wp2_with fail
  refine (HGet.out _ hb1).mono ?_
  rintro e w3 ⟨rfl, hb3⟩
  unfold gv
  have HB := Lib.hid (on_alloc (on_past hb1 hb3) (.cells #[.int .i64 gk, .int .i64 gs, .int .i64 gv'] 35))
  clear hb1 hb3
  go_wp2_with fail
  go_quiet ((go_at_call 30; exact quiet_eq (HSq.out _)))
  go_wp2_with fail
  have HB0 := Lib.hid (bdN HB.out nq)
  generalize hW : (w3.alloc (.cells #[.int .i64 gk, .int .i64 gs, .int .i64 gv'] 35)).drewN nq = W at HB0 ⊢
  clear hW HB
  have hpq : p.length ≤ c := by omega
  have hpq1 : ¬ p.length = c := by omega
  have hpq2 : ¬ c = p.length := by omega
  have hpq3 : ¬ c - p.length = 0 := by omega
  have HRl := Lib.hid (HR.out.left)
  have HRr := Lib.hid (HR.out.right)
  have HOa := Lib.hid (show OwnR (W.alloc (.cells #[] 22)).drew W.heap.size (some ⟨W.heap.size, 0, none⟩) 0 [] from OwnR.new W _ (Nat.le_refl _))
  have HOb := Lib.hid (show OwnR ((W.alloc (.cells #[] 22)).alloc (.cells #[.slice J l.length d] 22)).drew W.heap.size (some ⟨W.heap.size, 0, none⟩) 0 [] from (OwnR.new W _ (Nat.le_refl _)).below (on_drew (bself _ _)))
  have HOc := Lib.hid (show OwnR ((W.alloc (.cells #[.slice J l.length d] 22)).alloc (.cells #[] 22)).drew W.heap.size (some ⟨W.heap.size + 1, 0, none⟩) 0 [] from by
    have := OwnR.new (W.alloc (.cells #[.slice J l.length d] 22)) W.heap.size (by simp)
    rw [show (W.alloc (.cells #[.slice J l.length d] 22)).heap.size = W.heap.size + 1 by simp] at this
    exact this)
  have HCb := Lib.hid (show Cel ((W.alloc (.cells #[] 22)).alloc (.cells #[.slice J l.length d] 22)).drew (some ⟨W.heap.size + 1, 0, none⟩) [⟨J, l, d⟩] from by
    have := Cel.one (W.alloc (.cells #[] 22)) ⟨J, l, d⟩ 22
    rw [show (W.alloc (.cells #[] 22)).heap.size = W.heap.size + 1 by simp] at this
    exact ⟨this.at_⟩)
  have HCc := Lib.hid (show Cel ((W.alloc (.cells #[.slice J l.length d] 22)).alloc (.cells #[] 22)).drew (some ⟨W.heap.size, 0, none⟩) [⟨J, l, d⟩] from ⟨fun _ => ⟨_, 0, rfl, fun i hi => by
    have : i = 0 := by simp at hi; omega
    subst this
    exact (World.cell?_alloc_lt _ _ _ (by simp)).trans (by rw [World.cell?_alloc_new]; rfl)⟩⟩)
  go_region_law ((first
    | (refine step_append_r rfl (.tmp 52) (.tmp 55) rfl W.heap.size _ 0 [] (by rfl) (by first | exact HOa.out | exact HOb.out | exact HOc.out) (some ⟨b, off, none⟩) c p (by rfl) (fun h => by cases h) (HRl.out.below (by repeat (first | exact HB0.out | apply on_drew | apply on_alloc))).cel (by simp; omega) (by first | (simp; done) | (simp; omega)) ?_
       intro r3 A3 c3 w4 hr3 ho3 hb4 hg4 hl3
       have hT4 : Below W.heap.size W w4 := Below.trans (by repeat (first | exact Below.refl _ _ | apply on_drew | refine Below.alloc ?_ (by first | (simp; done) | (simp; omega)) _)) hb4)
    | (refine step_append_r rfl (.tmp 56) (.tmp 58) rfl W.heap.size A3 c3 r3 (by rfl) (by first | exact ho3 | exact ho3.below (bself w4 _)) _ 1 [⟨J, l, d⟩] (by rfl) (fun h => by cases h) (by first | exact Cel.one w4 ⟨J, l, d⟩ _ | exact HCb.out.kept hg4 (fun _ _ h => by cases h; simp [Value.ownBlock]) | exact HCc.out.kept hg4 (fun _ _ h => by cases h; simp [Value.ownBlock])) (by rw [show r3 = _ from hr3.out]; simp; omega) (by have := hb4.size; simp at this ⊢; omega) ?_
       intro r5 A5 c5 w5 hr5 ho5 hb5 hg5 hl5
       have hT5 : Below W.heap.size W w5 := by first | exact hT4.trans hb5 | exact (hT4.alloc hT4.size _).trans hb5)
    | (refine step_append_r rfl (.tmp 59) (.tmp 62) rfl W.heap.size A5 c5 r5 (by rfl) ho5 (some ⟨b, off + p.length, none⟩) (c - p.length) q (by rfl) (fun h => by cases h) (HRr.out.below (HB0.out.trans (hT5.mono HB0.out.size))).cel (by rw [show r5 = _ from hr5.out, show r3 = _ from hr3.out]; simp; omega) hT5.size ?_
       intro r6 A6 c6 w6 hr6 ho6 hb6 hg6 hl6
       have hT6 : Below W.heap.size W w6 := hT5.trans hb6)))
  all_goals
    have hW6 := Lib.hid (HB0.out.trans (hT6.mono HB0.out.size))
    have e6 : r6 = p ++ [⟨J, l, d⟩] ++ q := by rw [show r6 = _ from hr6.out, show r5 = _ from hr5.out, show r3 = _ from hr3.out]; rfl
    have hR6 : RdR w6 A6 r6 := ho6.rd (by
      intro r hr
      rw [e6] at hr
      simp only [List.mem_append, List.mem_singleton] at hr
      rcases hr with (hr | rfl) | hr
      · exact (HR.out.ok r (List.mem_append_left _ hr)).below hW6.out
      · exact HJ.out.below hW6.out
      · exact (HR.out.ok r (List.mem_append_right _ hr)).below hW6.out)
    have hcap6 := ho6.cap
    have HS2 := Lib.hid (fun w' (hb : Below w6.heap.size w6 w') => sort_any cycle A6 r6 c6 w' (hR6.below hb) hcap6.1 hcap6.2 hl6 (by rw [e6]; exact HLS2.out))
    replace HS2 : Hid (∀ w', Below w6.heap.size w6 w' → Calls Try.prog 28 #[.int .i64 cycle, .slice A6 r6.length c6] w' fun e w'' => e = .returned m2.v ∧ Below w'.heap.size w' w'') := Lib.hid (fun w' hb => by
      have := HS2.out w' hb
      rw [show texts r6 = texts (p ++ [⟨J, l, d⟩] ++ q) by rw [e6], HM2.out] at this
      exact this)
    clear hR6 hcap6 e6 ho3 ho5 ho6 hg4 hg5 hg6 hb4 hb5 hb6 hT4 hT5 hT6 hr3 hr5 hr6 HOa HOb HOc HCb HCc HRl HRr HR HJ HLS2
    go_wp2_with fail
    refine (HS1.out _ hW6.out).mono ?_
    rintro e w7 ⟨rfl, hb7⟩
    go_wp2_with fail
    refine (HS2.out _ hb7).mono ?_
    rintro e w8 ⟨rfl, hb8⟩
    have hB8 := Lib.hid (on_past (on_past hW6.out hb7) hb8)
    have hv1 : m1.v = .agg m1.cells.toArray := rfl
    have hv2 : m2.v = .agg m2.cells.toArray := rfl
    rw [hv1, hv2]
    clear hv1 hv2 hb7 hb8
    have hth1 := Lib.hid (show ((w8.alloc mail0).alloc mail0).there w8.heap.size 0 16 from there_below (there_alloc_new w8 _ _ 16 (by simp) _ rfl) (by simp) (bself (w8.alloc mail0) mail0))
    have hth2 := Lib.hid (show ((w8.alloc mail0).alloc mail0).there (w8.heap.size + 1) 0 16 from there_alloc_new (w8.alloc mail0) _ _ 16 (by simp) _ (by simp))
    unfold mail0 at hth1 hth2
    go_wp2_with (first
      | (refine wpList_store_mid ?_ 55 (.tmp 12) (.tmp 66) ?_ w8.heap.size 0 m1.cells.toArray ?_ ?_ ?_ mailSize m1.cells_one ?_
         · rfl
         · rfl
         · rfl
         · rfl
         · exact hth1.out)
      | (refine wpList_store_mid ?_ 55 (.tmp 13) (.tmp 69) ?_ (w8.heap.size + 1) 0 m2.cells.toArray ?_ ?_ ?_ mailSize m2.cells_one ?_
         · rfl
         · rfl
         · rfl
         · rfl
         · exact World.there_setCells hth2.out _ _ _
         have HR1 := Lib.hid (World.rangeAt_setCells_apart (World.rangeAt_setCells_same _ w8.heap.size 0 m1.cells hth1.out) (w8.heap.size + 1) 0 m2.cells (by left; omega))
         have HR2 := Lib.hid (World.rangeAt_setCells_same _ (w8.heap.size + 1) 0 m2.cells (World.there_setCells hth2.out w8.heap.size 0 m1.cells))
         have HBf := Lib.hid (below_setCells (w8.heap.size + 1) (by have := hB8.out.size; omega) m2.cells 0 _ (below_setCells w8.heap.size hB8.out.size m1.cells 0 _ (on_alloc (on_alloc hB8.out mail0) mail0)))
         unfold mail0 at HBf
         generalize World.setCells (World.setCells _ w8.heap.size 0 m1.cells) (w8.heap.size + 1) 0 m2.cells = Wf at HR1 HR2 HBf ⊢
         clear hth1 hth2
         obtain ⟨e1, e2, e3⟩ := HOff.out
         have q0 : Wf.cell? ⟨w8.heap.size, 0, none⟩ = some (.bool (m1.has 0)) := by have := HR1.out 0 _ rfl; simpa [e1, e2, e3] using this
         have q1 : Wf.cell? ⟨w8.heap.size, 1, none⟩ = some (.bool (m1.has 1)) := by have := HR1.out 1 _ rfl; simpa [e1, e2, e3] using this
         have q2 : Wf.cell? ⟨w8.heap.size, 2, none⟩ = some (.bool (m1.has 2)) := by have := HR1.out 2 _ rfl; simpa [e1, e2, e3] using this
         have q3 : Wf.cell? ⟨w8.heap.size, 3, none⟩ = some (.bool (m1.has 3)) := by have := HR1.out 3 _ rfl; simpa [e1, e2, e3] using this
         have q4 : Wf.cell? ⟨w8.heap.size, 4, none⟩ = some (.bool (m1.has 4)) := by have := HR1.out 4 _ rfl; simpa [e1, e2, e3] using this
         have q5 : Wf.cell? ⟨w8.heap.size, 5, none⟩ = some (.bool (m1.has 5)) := by have := HR1.out 5 _ rfl; simpa [e1, e2, e3] using this
         have q6 : Wf.cell? ⟨w8.heap.size, 6, none⟩ = some (.int .i64 (m1.val 0)) := by have := HR1.out 6 _ rfl; simpa [e1, e2, e3] using this
         have q7 : Wf.cell? ⟨w8.heap.size, 7, none⟩ = some (.int .i64 (m1.val 1)) := by have := HR1.out 7 _ rfl; simpa [e1, e2, e3] using this
         have q8 : Wf.cell? ⟨w8.heap.size, 8, none⟩ = some (.int .i64 (m1.val 2)) := by have := HR1.out 8 _ rfl; simpa [e1, e2, e3] using this
         have q9 : Wf.cell? ⟨w8.heap.size, 9, none⟩ = some (.int .i64 (m1.val 3)) := by have := HR1.out 9 _ rfl; simpa [e1, e2, e3] using this
         have q10 : Wf.cell? ⟨w8.heap.size, 10, none⟩ = some (.int .i64 (m1.val 4)) := by have := HR1.out 10 _ rfl; simpa [e1, e2, e3] using this
         have q11 : Wf.cell? ⟨w8.heap.size, 11, none⟩ = some (.int .i64 (m1.val 5)) := by have := HR1.out 11 _ rfl; simpa [e1, e2, e3] using this
         have q12 : Wf.cell? ⟨w8.heap.size, 12, none⟩ = some (.int .i64 (m1.bad : Nat)) := by have := HR1.out 12 _ rfl; simpa [e1, e2, e3] using this
         have q13 : Wf.cell? ⟨w8.heap.size, 13, none⟩ = some (.int .i64 (m1.stale : Nat)) := by have := HR1.out 13 _ rfl; simpa [e1, e2, e3] using this
         have q14 : Wf.cell? ⟨w8.heap.size, 14, none⟩ = some (.int .i64 (m1.twice : Nat)) := by have := HR1.out 14 _ rfl; simpa [e1, e2, e3] using this
         have r0 : Wf.cell? ⟨w8.heap.size + 1, 0, none⟩ = some (.bool (m1.has 0)) := by have := HR2.out 0 _ rfl; simpa [e1, e2, e3] using this
         have r1 : Wf.cell? ⟨w8.heap.size + 1, 1, none⟩ = some (.bool (m1.has 1)) := by have := HR2.out 1 _ rfl; simpa [e1, e2, e3] using this
         have r2 : Wf.cell? ⟨w8.heap.size + 1, 2, none⟩ = some (.bool (m1.has 2)) := by have := HR2.out 2 _ rfl; simpa [e1, e2, e3] using this
         have r3 : Wf.cell? ⟨w8.heap.size + 1, 3, none⟩ = some (.bool (m1.has 3)) := by have := HR2.out 3 _ rfl; simpa [e1, e2, e3] using this
         have r4 : Wf.cell? ⟨w8.heap.size + 1, 4, none⟩ = some (.bool (m1.has 4)) := by have := HR2.out 4 _ rfl; simpa [e1, e2, e3] using this
         have r5 : Wf.cell? ⟨w8.heap.size + 1, 5, none⟩ = some (.bool (m1.has 5)) := by have := HR2.out 5 _ rfl; simpa [e1, e2, e3] using this
         have r6 : Wf.cell? ⟨w8.heap.size + 1, 6, none⟩ = some (.int .i64 (m1.val 0)) := by have := HR2.out 6 _ rfl; simpa [e1, e2, e3] using this
         have r7 : Wf.cell? ⟨w8.heap.size + 1, 7, none⟩ = some (.int .i64 (m1.val 1)) := by have := HR2.out 7 _ rfl; simpa [e1, e2, e3] using this
         have r8 : Wf.cell? ⟨w8.heap.size + 1, 8, none⟩ = some (.int .i64 (m1.val 2)) := by have := HR2.out 8 _ rfl; simpa [e1, e2, e3] using this
         have r9 : Wf.cell? ⟨w8.heap.size + 1, 9, none⟩ = some (.int .i64 (m1.val 3)) := by have := HR2.out 9 _ rfl; simpa [e1, e2, e3] using this
         have r10 : Wf.cell? ⟨w8.heap.size + 1, 10, none⟩ = some (.int .i64 (m1.val 4)) := by have := HR2.out 10 _ rfl; simpa [e1, e2, e3] using this
         have r11 : Wf.cell? ⟨w8.heap.size + 1, 11, none⟩ = some (.int .i64 (m1.val 5)) := by have := HR2.out 11 _ rfl; simpa [e1, e2, e3] using this
         have r12 : Wf.cell? ⟨w8.heap.size + 1, 12, none⟩ = some (.int .i64 (m2.bad : Nat)) := by have := HR2.out 12 _ rfl; simpa [e1, e2, e3] using this
         have r13 : Wf.cell? ⟨w8.heap.size + 1, 13, none⟩ = some (.int .i64 (m2.stale : Nat)) := by have := HR2.out 13 _ rfl; simpa [e1, e2, e3] using this
         have r14 : Wf.cell? ⟨w8.heap.size + 1, 14, none⟩ = some (.int .i64 (m1.twice : Nat)) := by have := HR2.out 14 _ rfl; simpa [e1, e2, e3] using this
         have h4 : ((m2.bad : Int) + m2.stale == m1.bad + m1.stale + 1) = true := by have := H4.out; simp; omega
         clear e1 e2 e3 HR1 HR2))
    go_ret
    exact ⟨by simp, HBf.out⟩

end Go.Proofs.Ytfaabjohlimnlaa
