/- The walk of the law WatchPlays: it returns true and writes nothing that was there. No condition. -/
import Derived.Test.YthlokgidkjejhaaPm
import Derived.Test.YthlokgidkjejhaaWs
import Derived.Deep.LoopGhost
import Derived.Deep.DeepCutAuto
import Derived.Deep.Light
import Derived.Lib.SmallJoins
namespace Go.Proofs.Ythlokgidkjejhaa
open Go.ChangeShapes Go.WideShapes Go.RowKit Go.Sort Go.Joins
set_option linter.unusedVariables false
set_option linter.unusedSimpArgs false

/-- one cycle, as it came in -/
structure Cyc where
  fit : Int
  conf : Bool
  over : Bool
  acc : Bool
  on : Bool

def Cyc.cells (x : Cyc) : List Value := [.int .i64 x.fit, .bool x.conf, .bool x.over, .bool x.acc, .bool x.on]

set_option maxHeartbeats 1000000 in
set_option maxRecDepth 100000 in
theorem plays_in (c : Cfg) (b off len cap : Nat) (x : Nat → Cyc) (w : World) (h : c.ok) (ht : 1 ≤ c.timeout) (ht' : c.timeout ≤ 1000) (hlen : len ≤ 3000) (hb : b < w.heap.size)
    (hx : ∀ i, i < len → w.cell? ⟨b, off + i * 5, none⟩ = some (.int .i64 (x i).fit) ∧ w.cell? ⟨b, off + i * 5 + 1, none⟩ = some (.bool (x i).conf) ∧ w.cell? ⟨b, off + i * 5 + 2, none⟩ = some (.bool (x i).over) ∧
      w.cell? ⟨b, off + i * 5 + 3, none⟩ = some (.bool (x i).acc) ∧ w.cell? ⟨b, off + i * 5 + 4, none⟩ = some (.bool (x i).on)) :
    Calls Try.prog 5 #[c.val, .slice (some ⟨b, off, none⟩) len cap] w fun e w' => e = .returned (.bool true) ∧ Below w.heap.size w w' := by
  have hw := fun w => wrong_ok c w h
  have hW := Lib.hid hw; clear hw h
  have hX := Lib.hid hx; clear hx
  unfold Cfg.val
  go_enter Try.func5, Try.ntmps5
  go_wp2_with fail
  refine (anchor_any _).mono ?_
  rintro e w1 ⟨rfl, hb1⟩
  obtain ⟨hc, hf, hl⟩ := bcell hb1
  go_wp2_with fail
  refine (hW.out _).mono ?_
  rintro e w2 ⟨rfl, hb2⟩
  have hb12 := Past.trans hb1 hb2
  clear hc hf hl hb1 hb2
  go_wp2_with fail
  go_loopg [6, 7, 8, 24] len (fun n s6 s7 s8 s24 wr => ∃ (i : Nat) (sil str : Int) (fl : Bool), i + n = len ∧ s24 = .int .i64 i ∧ s6 = .int .i64 sil ∧ s7 = .int .i64 str ∧ s8 = .bool fl ∧
    0 ≤ sil ∧ sil ≤ i ∧ 0 ≤ str ∧ str ≤ i ∧ wr.heap[w2.heap.size]? = some (.cells #[.int .i64 (min sil (c.timeout + 1)), .int .i64 (min str (c.timeout + 1)), .bool fl] 25 (0, 0)) ∧ Below w2.heap.size w2 wr)
  case atStart =>
    refine ⟨0, 0, 0, false, by omega, rfl, rfl, rfl, rfl, by omega, by omega, by omega, by omega, ?_, ?_⟩
    · have e1 : min 0 (c.timeout + 1) = 0 := by omega
      rw [e1]
      exact heap_alloc_new w2 _
    · exact bself _ _
  case round =>
    obtain ⟨i, sil, str, fl, hi, rfl, rfl, rfl, rfl, hs0, hs1, hr0, hr1, hB, hbr⟩ := hrel
    have hHB := Lib.hid hB
    have hi' := Lib.hid hi
    have hile : i ≤ len := by omega
    have hbW := Past.trans hb12 hbr
    obtain ⟨hc, hf, hl⟩ := bcell hbW
    have zB : w2.heap.size < wr.heap.size := by
      rcases Nat.lt_or_ge w2.heap.size wr.heap.size with h | h
      · exact h
      · rw [Array.getElem?_eq_none h] at hB; cases hB
    have z2 : w.heap.size < w2.heap.size := by have := hb12.size; simp at this; omega
    have zw : w.heap.size < wr.heap.size := by omega
    have zb : b < wr.heap.size := by omega
    have n1 : ¬ w.heap.size = w2.heap.size := by omega
    have n2 : ¬ w2.heap.size = wr.heap.size := by omega
    have n3 : ¬ w.heap.size = wr.heap.size := by omega
    have c0 : wr.cell? ⟨w2.heap.size, 0, none⟩ = some (.int .i64 (min sil (c.timeout + 1))) := by rw [cell_of_block hB]; rfl
    have c1 : wr.cell? ⟨w2.heap.size, 1, none⟩ = some (.int .i64 (min str (c.timeout + 1))) := by rw [cell_of_block hB]; rfl
    have c2 : wr.cell? ⟨w2.heap.size, 2, none⟩ = some (.bool fl) := by rw [cell_of_block hB]; rfl
    have ff : ∀ j, wr.frozen? ⟨w2.heap.size, j, none⟩ = false := unfrozen_of_block hB
    clear hB hi
    by_cases hlt : i < len
    · have hx := hX.out i hlt
      have hcb : ∀ o, wr.cell? ⟨b, o, none⟩ = w.cell? ⟨b, o, none⟩ := fun o => by
        rw [hc b o (by simp; omega)]
        exact World.cell?_alloc_lt w _ _ (by simpa using hb)
      generalize x i = xi at hx
      obtain ⟨fit, conf, over, acc, on⟩ := xi
      obtain ⟨x0, x1, x2, x3, x4⟩ := hx
      rw [← hcb] at x0 x1 x2 x3 x4
      have hcfg : ∀ o, wr.cell? ⟨w.heap.size, o, none⟩ = (#[Value.int .i64 c.pulses, .int .i64 c.circLo, .int .i64 c.circHi, .int .i64 c.radBase, .int .i64 c.radPart, .int .i64 c.accErr, .int .i64 c.maxSpeed, .int .i64 c.maxAccel, .int .i64 c.antenna, .int .i64 c.still, .int .i64 c.stillSpeed, .int .i64 c.roll, .int .i64 c.timeout, .int .i64 c.brake] : Array Value)[o]? := fun o => by
        rw [hc w.heap.size o (by simp)]
        exact World.cell?_alloc_mark w _ _ _ o
      clear hcb hc hf hl
      have l6 := lack_bd sil (decide (fit < 1)) i hs0 hs1 (by omega)
      have l7 := lack_bd str conf i hr0 hr1 (by omega)
      have e6 := count_lack sil c.timeout (decide (fit < 1)) ht
      have e7 := count_lack str c.timeout conf ht
      have eF := fail_lack (lackOf sil (decide (fit < 1))) (lackOf str conf) c.timeout fl over acc
      generalize hn6 : lackOf sil (decide (fit < 1)) = n6 at l6 e6 eF
      generalize hn7 : lackOf str conf = n7 at l7 e7 eF
      generalize hg : (!acc && fl) = g0 at eF
      have Hg := Lib.hid hg; clear hg
      generalize hF : (((g0 || over) || decide (c.timeout < n6)) || decide (c.timeout < n7)) = F at eF
      have H6 := Lib.hid hn6; clear hn6
      have H7 := Lib.hid hn7; clear hn7
      have HF := Lib.hid hF; clear hF
      have E6 := Lib.hid e6; clear e6
      have E7 := Lib.hid e7; clear e7
      have EF := Lib.hid eF; clear eF
      obtain ⟨m6, hm6, hm6a, hm6b, hm6c⟩ : ∃ m6 : Int, m6 = min n6 (c.timeout + 1) ∧ m6 ≤ n6 ∧ m6 ≤ c.timeout + 1 ∧ (n6 ≤ m6 ∨ c.timeout + 1 ≤ m6) := ⟨_, rfl, by omega, by omega, by omega⟩
      obtain ⟨m7, hm7, hm7a, hm7b, hm7c⟩ : ∃ m7 : Int, m7 = min n7 (c.timeout + 1) ∧ m7 ≤ n7 ∧ m7 ≤ c.timeout + 1 ∧ (n7 ≤ m7 ∨ c.timeout + 1 ≤ m7) := ⟨_, rfl, by omega, by omega, by omega⟩
      have hN : ∀ w', Calls Try.prog 8 #[.agg #[.int .i64 (min sil (c.timeout + 1)), .int .i64 (min str (c.timeout + 1)), .bool fl], c.val, .int .i64 fit, .bool conf, .bool over, .bool acc] w' fun e w'' =>
          e = .returned (.agg #[.int .i64 m6, .int .i64 m7, .bool F]) ∧ Below w'.heap.size w' w'' := fun w' => by
        refine (next_any (min sil (c.timeout + 1)) (min str (c.timeout + 1)) fl c fit conf over acc w' (by omega) (by omega) (by omega) (by omega) (by omega) (by omega)).mono ?_
        rintro e w'' ⟨rfl, hb'⟩
        rw [E6.out, E7.out, EF.out, ← hm6, ← hm7]
        exact ⟨rfl, hb'⟩
      have HN := Lib.hid hN; clear hN
      have HM6 := Lib.hid hm6; clear hm6
      have HM7 := Lib.hid hm7; clear hm7
      generalize min sil (c.timeout + 1) = p6 at c0 HN hHB
      generalize min str (c.timeout + 1) = p7 at c1 HN hHB
      clear E6 E7 EF
      obtain ⟨l6, l6'⟩ := l6
      obtain ⟨l7, l7'⟩ := l7
      go_upto_if 32 with (fail)
      go_cut [6] (fun s6 wx => s6 = .int .i64 n6 ∧ wx = wr.alloc (.cells #[.int .i64 fit, .bool conf, .bool over, .bool acc, .bool on] 27))
      case first =>
        have q6 := H6.out
        by_cases hq : fit < 1
        · have : sil + 1 = n6 := by simpa [lackOf, hq] using q6
          subst this
          clear q6 H6 HF HN HM6 HM7
          go_wp2_with fail
          go_meet
          exact ⟨rfl, rfl⟩
        · have : 0 = n6 := by simpa [lackOf, hq] using q6
          subst this
          clear q6 H6 HF HN HM6 HM7
          go_wp2_with fail
          go_meet
          exact ⟨rfl, rfl⟩
      case rest =>
      obtain ⟨rfl, rfl⟩ := hcut
      go_upto_if 37 with (fail)
      go_cut [7] (fun s7 wx => s7 = .int .i64 n7 ∧ wx = wr.alloc (.cells #[.int .i64 fit, .bool conf, .bool over, .bool acc, .bool on] 27))
      case first =>
        have q7 := H7.out
        clear H6 H7 HF HN HM6 HM7
        cases conf
        · have : 0 = n7 := by simpa [lackOf] using q7
          subst this
          clear q7
          go_wp2_with fail
          go_meet
          exact ⟨rfl, rfl⟩
        · have : str + 1 = n7 := by simpa [lackOf] using q7
          subst this
          clear q7
          go_wp2_with fail
          go_meet
          exact ⟨rfl, rfl⟩
      case rest =>
      obtain ⟨rfl, rfl⟩ := hcut
      go_upto_if 39 with (fail)
      go_cut [8] (fun s8 wx => s8 = .bool g0 ∧ wx = wr.alloc (.cells #[.int .i64 fit, .bool conf, .bool over, .bool acc, .bool on] 27))
      case first =>
        clear H6 H7 HF HN HM6 HM7
        have qg := Hg.out
        clear Hg
        cases acc
        · have : fl = g0 := by simpa using qg
          subst this
          clear qg
          go_wp2_with fail
          go_meet
          exact ⟨rfl, rfl⟩
        · have : false = g0 := by simpa using qg
          subst this
          clear qg
          go_wp2_with fail
          go_meet
          exact ⟨rfl, rfl⟩
      case rest =>
      obtain ⟨rfl, rfl⟩ := hcut
      clear Hg
      go_upto_region 19 with (fail)
      go_cut [8] (fun s8 wx => s8 = .bool F ∧ wx = wr.alloc (.cells #[.int .i64 fit, .bool conf, .bool over, .bool acc, .bool on] 27))
      case first =>
        have qF := HF.out
        clear H6 H7 HF HN HM6 HM7
        cases g0 <;> cases over <;> by_cases r6 : c.timeout < n6 <;> by_cases r7 : c.timeout < n7
        all_goals
          simp only [r6, r7, decide_true, decide_false, Bool.true_or, Bool.false_or, Bool.or_true, Bool.or_false] at qF
          subst qF
          go_wp2_with fail
          go_meet
          exact ⟨rfl, rfl⟩
      case rest =>
      obtain ⟨rfl, rfl⟩ := hcut
      clear HF
      go_wp2_with fail
      refine (HN.out _).mono ?_
      rintro e w3 ⟨rfl, hb3⟩
      have hb3' := hb3
      obtain ⟨hc3, hf3, hl3⟩ := bcell hb3'
      clear HN hb3'
      have y0 : ∀ o, w3.cell? ⟨wr.heap.size, o, none⟩ = (#[Value.int .i64 fit, .bool conf, .bool over, .bool acc, .bool on] : Array Value)[o]? := fun o => by
        rw [hc3 _ o (by simp)]
        exact World.cell?_alloc_mark wr _ _ _ o
      have old : ∀ b o, b < wr.heap.size → w3.cell? ⟨b, o, none⟩ = wr.cell? ⟨b, o, none⟩ := fun b o h => by
        rw [hc3 b o (by simp; omega)]
        exact World.cell?_alloc_lt wr _ _ (by simpa using h)
      have hcfg3 : ∀ o, w3.cell? ⟨w.heap.size, o, none⟩ = (#[Value.int .i64 c.pulses, .int .i64 c.circLo, .int .i64 c.circHi, .int .i64 c.radBase, .int .i64 c.radPart, .int .i64 c.accErr, .int .i64 c.maxSpeed, .int .i64 c.maxAccel, .int .i64 c.antenna, .int .i64 c.still, .int .i64 c.stillSpeed, .int .i64 c.roll, .int .i64 c.timeout, .int .i64 c.brake] : Array Value)[o]? := fun o => by rw [old _ o zw]; exact hcfg o
      have d0 := (old w2.heap.size 0 zB).trans c0
      have d1 := (old w2.heap.size 1 zB).trans c1
      have d2 := (old w2.heap.size 2 zB).trans c2
      have ff3 : ∀ j, w3.frozen? ⟨w2.heap.size, j, none⟩ = false := fun j => by
        rw [hf3 _ j (by simp; omega), World.frozen?_alloc_old _ _ _ (by simp; omega)]
        exact ff j
      have hz3 : wr.heap.size + 1 ≤ w3.heap.size := by have := hb3.size; simpa using this
      have zB3 : w2.heap.size < w3.heap.size := by omega
      have zw3 : w.heap.size < w3.heap.size := by omega
      have zr3 : wr.heap.size < w3.heap.size := by omega
      clear hz3 old hc3 hf3 hl3 c0 c1 c2 ff x0 x1 x2 x3 x4 hcfg
      go_upto_region 21 with (fail)
      go_cut [91] (fun s91 wx => s91 = .bool false ∧ wx = ((w3.setCell ⟨w2.heap.size, 0, none⟩ (.int .i64 m6)).setCell ⟨w2.heap.size, 1, none⟩ (.int .i64 m7)).setCell ⟨w2.heap.size, 2, none⟩ (.bool F))
      case first =>
        go_wp2_with fail
        all_goals
          go_meet
          refine ⟨congrArg Value.bool (bne_eq_false_iff_eq.2 (by omega)), ?_⟩
          simp only [*]
      case rest =>
      obtain ⟨rfl, rfl⟩ := hcut
      have hB3 : w3.heap[w2.heap.size]? = some (.cells #[.int .i64 p6, .int .i64 p7, .bool fl] 25 (0, 0)) := by
        rw [hb3.block _ (by simp; omega), (Below.heap_alloc wr _ _ zB)]
        exact hHB.out
      have hB4 : (((w3.setCell ⟨w2.heap.size, 0, none⟩ (.int .i64 m6)).setCell ⟨w2.heap.size, 1, none⟩ (.int .i64 m7)).setCell ⟨w2.heap.size, 2, none⟩ (.bool F)).heap[w2.heap.size]? = some (.cells #[.int .i64 m6, .int .i64 m7, .bool F] 25 (0, 0)) :=
        block_setCell (block_setCell (block_setCell hB3 _) _) _
      have hb4 : Below w2.heap.size w2 (((w3.setCell ⟨w2.heap.size, 0, none⟩ (.int .i64 m6)).setCell ⟨w2.heap.size, 1, none⟩ (.int .i64 m7)).setCell ⟨w2.heap.size, 2, none⟩ (.bool F)) := on_set (on_set (on_set (on_past (on_alloc hbr _) hb3) (Nat.le_refl _) _) (Nat.le_refl _) _) (Nat.le_refl _) _
      have v0 : ∀ o, (((w3.setCell ⟨w2.heap.size, 0, none⟩ (.int .i64 m6)).setCell ⟨w2.heap.size, 1, none⟩ (.int .i64 m7)).setCell ⟨w2.heap.size, 2, none⟩ (.bool F)).cell? ⟨wr.heap.size, o, none⟩ = (#[Value.int .i64 fit, .bool conf, .bool over, .bool acc, .bool on] : Array Value)[o]? := fun o => by
        rw [World.cell?_setCell_other _ _ _ _ (by simp [n2, Ne.symm]), World.cell?_setCell_other _ _ _ _ (by simp [n2]), World.cell?_setCell_other _ _ _ _ (by simp [n2])]
        exact y0 o
      generalize ((w3.setCell ⟨w2.heap.size, 0, none⟩ (.int .i64 m6)).setCell ⟨w2.heap.size, 1, none⟩ (.int .i64 m7)).setCell ⟨w2.heap.size, 2, none⟩ (.bool F) = w4 at hB4 hb4 v0
      clear y0 hcfg3 d0 d1 d2 ff3 hB3
      have z4 : wr.heap.size < w4.heap.size := by
        rcases Nat.lt_or_ge wr.heap.size w4.heap.size with h | h
        · exact h
        · have := v0 0
          simp [World.cell?, Array.getElem?_eq_none h] at this
      have g0' : w4.cell? ⟨w2.heap.size, 0, none⟩ = some (.int .i64 m6) := by rw [cell_of_block hB4]; rfl
      have g1' : w4.cell? ⟨w2.heap.size, 1, none⟩ = some (.int .i64 m7) := by rw [cell_of_block hB4]; rfl
      have g2' : w4.cell? ⟨w2.heap.size, 2, none⟩ = some (.bool F) := by rw [cell_of_block hB4]; rfl
      have HB4 := Lib.hid hB4
      clear hB4 hHB hb3
      go_upto_region 24 with (fail)
      generalize hD : (decide (fit < 2) || conf) = D
      have HD := Lib.hid hD; clear hD
      go_cut [98] (fun s wx => s = .bool D ∧ w4 = wx)
      case first =>
        have qD := HD.out
        clear HD
        cases conf <;> by_cases r : fit < 2
        all_goals
          simp only [r, decide_true, decide_false, Bool.true_or, Bool.false_or, Bool.or_true, Bool.or_false] at qD
          subst qD
          go_wp2_with fail
          go_meet
          exact ⟨rfl, rfl⟩
      case rest =>
      obtain ⟨rfl, rfl⟩ := hcut
      go_upto_if 98 with (fail)
      go_cut [11] (fun s wx => s = .int .i64 (if D then 3 else 2) ∧ w4 = wx)
      case first =>
        clear HD
        cases D
        all_goals
          go_wp2_with fail
          go_meet
          exact ⟨rfl, rfl⟩
      case rest =>
      obtain ⟨rfl, rfl⟩ := hcut
      generalize hq1 : (if D then (3 : Int) else 2) = q1
      have Q1 := Lib.hid hq1; clear hq1
      go_upto_if 101 with (fail)
      go_cut [11] (fun s wx => s = .int .i64 (if on then q1 else 1) ∧ w4 = wx)
      case first =>
        cases on
        all_goals
          go_wp2_with fail
          go_meet
          exact ⟨rfl, rfl⟩
      case rest =>
      obtain ⟨rfl, rfl⟩ := hcut
      generalize hq2 : (if on then q1 else (1 : Int)) = q2
      have Q2 := Lib.hid hq2; clear hq2
      go_upto_if 102 with (fail)
      go_cut [11] (fun s wx => s = .int .i64 (if F then 4 else q2) ∧ w4 = wx)
      case first =>
        cases F
        all_goals
          go_wp2_with fail
          go_meet
          exact ⟨rfl, rfl⟩
      case rest =>
      obtain ⟨rfl, rfl⟩ := hcut
      have hm : (if F then 4 else q2) = modeOf F on fit conf := by
        rw [← Q2.out, ← Q1.out, ← HD.out]
        unfold modeOf
        cases on <;> cases conf <;> simp
      rw [hm]
      clear hm Q1 Q2 HD
      generalize hmo : modeOf F on fit conf = mo
      have HMO := Lib.hid hmo; clear hmo
      go_wp2_with fail
      refine (mode_any m6 m7 F on fit conf _).mono ?_
      rintro e w5 ⟨rfl, hb5⟩
      rw [HMO.out]
      have hbe := on_past hb4 hb5
      have HB5 := Lib.hid ((hb5.block w2.heap.size (by omega)).trans HB4.out)
      clear hb4 v0 g0' g1' g2' z4 HB4 hb5
      go_wp2_with fail
      go_roundg (gk - 1)
      case measure => have := hi'.out; omega
      case rel =>
        have h1 := hi'.out
        refine ⟨i + 1, n6, n7, F, by omega, by go_num, rfl, rfl, rfl, l6, by omega, l7, by omega, ?_, hbe⟩
        rw [← HM6.out, ← HM7.out]
        exact HB5.out
    · go_wp2_with fail
      go_ret
      exact ⟨rfl, on_past (on_past (bself _ _) hb12) hbr⟩

end Go.Proofs.Ythlokgidkjejhaa
