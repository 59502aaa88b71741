/- The walk of the law FrameTurned. No condition. -/
import Derived.Test.YtfaabjohlimnlaaTm
import Derived.Test.YtfaabjohlimnlaaGs
import Derived.Test.YtfaabjohlimnlaaFa
import Derived.Test.YtfaabjohlimnlaaBz
import Derived.Test.YtfaabjohlimnlaaAd
namespace Go.Proofs.Ytfaabjohlimnlaa
open Go.ChangeShapes Go.WideShapes Go.RowKit Go.Sort
set_option linter.unusedVariables false
set_option linter.unusedSimpArgs false

theorem Own.at0 {w : World} {base : Nat} {A : Option Addr} {c : Nat} {l : List Nat} (h : Own w base A c l) (h0 : 0 < l.length) : ∃ g, base ≤ g ∧ g < w.heap.size ∧ A = some ⟨g, 0, none⟩ := by
  rcases h.row.2 with ⟨_, hn⟩ | ⟨g, cap, cur, hv, hb, hg, _⟩
  · omega
  · simp only [Value.slice.injEq] at hv
    obtain ⟨rfl, _, rfl⟩ := hv
    refine ⟨g, hb, ?_, rfl⟩
    rcases Nat.lt_or_ge g w.heap.size with h | h
    · exact h
    · rw [Array.getElem?_eq_none h] at hg; cases hg

set_option maxRecDepth 100000 in
set_option maxHeartbeats 1000000 in
theorem turned_long (k s v at_ : Int) (a : Option Addr) (m : List Nat) (c : Nat) (w : World) (h : 100 < m.length) :
    Calls Try.prog 9 #[.agg #[.int .i64 k, .int .i64 s, .int .i64 v], .int .i64 at_, .slice a m.length c] w fun e w' => e = .returned (.bool true) ∧ Below w.heap.size w w' := by
  go_enter Try.func9, Try.ntmps9
  go_wp2_with fail
  refine (frameAnchor_any _).mono ?_
  rintro e w1 ⟨rfl, hb1⟩
  have hb0 : Below w.heap.size w w1 := by first | exact hb1 | exact on_past (bself _ _) hb1
  go_wp2_with fail
  go_ret
  exact ⟨rfl, hb0⟩

set_option maxRecDepth 100000 in
set_option maxHeartbeats 1000000 in
theorem turned_bad (k s v at_ : Int) (a : Option Addr) (m : List Nat) (c : Nat) (w : World) (h1 : ¬ (Fr.sz k ≠ 0 ∧ Fr.ok k s v)) (hv : -9223372036854775808 ≤ v) (hv' : v ≤ 9223372036854775807) (h : m.length ≤ 100) :
    Calls Try.prog 9 #[.agg #[.int .i64 k, .int .i64 s, .int .i64 v], .int .i64 at_, .slice a m.length c] w fun e w' => e = .returned (.bool true) ∧ Below w.heap.size w w' := by
  have H1 := Lib.hid h1; clear h1
  have hlen : ¬ 100 < m.length := by omega
  go_enter Try.func9, Try.ntmps9
  go_wp2_with fail
  refine (frameAnchor_any _).mono ?_
  rintro e w1 ⟨rfl, hb1⟩
  have hb0 : Below w.heap.size w w1 := on_past (bself _ _) hb1
  obtain ⟨q0, q1, q2⟩ := after3 hb1
  have zw10 : w.heap.size < w1.heap.size := by have := hb1.size; simp at this; omega
  go_wp2_with fail
  refine (put_bad k s v _ H1.out hv hv').mono ?_
  rintro e w2 ⟨n, hn, hn', rfl, hb2⟩
  go_wp2_with fail
  go_ret
  exact ⟨by first | rfl | simp [hn], on_past hb0 hb2⟩

set_option maxRecDepth 100000 in
set_option maxHeartbeats 1000000 in
theorem turned_good (k s v at_ : Int) (a : Option Addr) (m : List Nat) (c : Nat) (w : World) (h1 : Fr.sz k ≠ 0 ∧ Fr.ok k s v) (hv : -9223372036854775808 ≤ v) (hv' : v ≤ 9223372036854775807) (h : m.length ≤ 100)
    (ha : RdB w a m) (hcn : a = none → c = 0) (hcl : m.length ≤ c) (hcm : c ≤ maxLen) :
    Calls Try.prog 9 #[.agg #[.int .i64 k, .int .i64 s, .int .i64 v], .int .i64 at_, .slice a m.length c] w fun e w' => e = .returned (.bool true) ∧ Below w.heap.size w w' := by
  have H1 := Lib.hid h1; clear h1
  have HA := Lib.hid ha; clear ha
  have HC := Lib.hid hcn; clear hcn
  have hlen : ¬ 100 < m.length := by omega
  have HP := Lib.hid (fun w => put_good k s v w H1.out.1 H1.out.2 hv hv')
  have HL := Lib.hid (show (Fr.bytes k s v).length ≤ 9 ∧ 7 ≤ (Fr.bytes k s v).length by rw [Fr.bytes_len]; have := H1.out.1; rcases Fr.sz_cases k with h | h | h <;> omega)
  have HT := Lib.hid (fun i t => Fr.turned_err k s v i t)
  have HCut := Lib.hid (Fr.cut_err k s v H1.out.1)
  have HOn := Lib.hid (Fr.on_err k s v H1.out.1 H1.out.2 m)
  clear H1
  generalize Fr.bytes k s v = l at HP HL HT HCut HOn
  have hl9 : l.length ≤ 9 := HL.out.1
  have hl7 : 7 ≤ l.length := HL.out.2
  go_enter Try.func9, Try.ntmps9
  go_wp2_with fail
  refine (frameAnchor_any _).mono ?_
  rintro e w1 ⟨rfl, hb1⟩
  have hb0 : Below w.heap.size w w1 := on_past (bself _ _) hb1
  obtain ⟨q0, q1, q2⟩ := after3 hb1
  have zw10 : w.heap.size < w1.heap.size := by have := hb1.size; simp at this; omega
  go_wp2_with fail
  refine (HP.out _).mono ?_
  rintro e w2 ⟨A2, c2, rfl, ho2, hb2⟩
  have hb02 := on_past hb0 hb2
  have hA2 : A2 = none → c2 = 0 := fun e => by
    obtain ⟨b, off, e2, _⟩ := ho2.rd.at_ (by omega)
    rw [e] at e2; cases e2
  have HA2 := Lib.hid hA2; clear hA2
  have HO2 := Lib.hid ho2; clear ho2
  have HB02 := Lib.hid hb02
  have hp2 : Below w2.heap.size w2 (w2.alloc (.cells #[] 5)) := bself _ _
  clear q0 q1 q2
  go_wp2_with (first
    | (at_builtin
       refine wpList_append_b rfl (.tmp 36) (.tmp 37) rfl w2.heap.size (some ⟨w2.heap.size, 0, none⟩) 0 [] rfl (Own.new w2 #[] 0 (by simp) (by simp)) A2 c2 l rfl HA2.out (HO2.out.rd.below hp2) (by simp; omega) (by simp) ?_
       intro r A3 c3 w3 hr hown3 hbel3 hgr3 hlen3)
    | (at_builtin
       refine wpList_append_b rfl (.tmp 38) (.tmp 39) rfl w2.heap.size A3 c3 r rfl hown3 a c m rfl HC.out (HA.out.below ((HB02.out.trans (hp2.mono HB02.out.size)).trans (hbel3.mono HB02.out.size))) (by rw [show r = _ from hr.out]; simp; omega) (by have := hbel3.size; simp at this; omega) ?_
       intro t A4 c4 w4 ht hown4 hbel4 hgr4 hlen4))
  have hT3 : Below w.heap.size w w3 := (HB02.out.trans (hp2.mono HB02.out.size)).trans (hbel3.mono HB02.out.size)
  have hT4 : Below w.heap.size w w4 := hT3.trans (hbel4.mono HB02.out.size)
  have htl : t = l ++ m := by rw [show t = _ from ht.out, show r = _ from hr.out]; rfl
  have hU4 : Below w2.heap.size w2 w4 := (hp2.trans hbel3).trans hbel4
  have hcap4 := hown4.cap
  have HT4 := Lib.hid hT4
  have HU4 := Lib.hid hU4
  have HRd4 := Lib.hid hown4.rd
  clear hT3 hT4 hU4 hp2 hbel3 hbel4 hown3 hown4 hgr3 hgr4 hr ht
  refine (get_any A4 t c4 _ HRd4.out hcap4.1 hcap4.2 (by rw [htl, List.length_append]; omega)).mono ?_
  rw [htl]
  rintro e w5 ⟨rfl, hb5⟩
  have hgn := HOn.out
  generalize Fr.get (l ++ m) = g at hgn
  obtain ⟨gk, gs, gv', gn⟩ := g
  replace hgn : gn = 0 ↔ m.length = 0 := hgn
  unfold gv
  have g1 : (gn == 0) = decide (m.length = 0) := by
    rw [Bool.eq_iff_iff]; simp [hgn]
  have g2 : ((m.length : Int) == 0) = decide (m.length = 0) := by
    rw [Bool.eq_iff_iff]; simp
  generalize decide (m.length = 0) = bz at g1 g2
  clear hgn htl
  have hT5 : Below w.heap.size w w5 := on_past HT4.out hb5
  by_cases hin : 0 ≤ at_ ∧ at_ < 8 * (l.length : Int)
  · obtain ⟨p, rfl⟩ : ∃ p : Nat, at_ = p := ⟨at_.toNat, by omega⟩
    obtain ⟨i, hi⟩ : ∃ i : Nat, i = p / 8 := ⟨_, rfl⟩
    obtain ⟨j, hj⟩ : ∃ j : Nat, j = p % 8 := ⟨_, rfl⟩
    have e8 : (p : Int) / 8 = (i : Int) := by omega
    have e9 : (p : Int) % 8 = (j : Int) := by omega
    have hil : i < l.length := by omega
    have hj8 : j < 8 := by omega
    have hp8 : (p : Int) < 8 * (l.length : Int) := hin.2
    clear hin hi hj
    have hO5 := Own.new (w5.alloc (.cells #[.int .i64 gk, .int .i64 gs, .int .i64 gv'] 35)) #[] 0 (by simp) (by simp)
    rw [show (w5.alloc (.cells #[.int .i64 gk, .int .i64 gs, .int .i64 gv'] 35)).heap.size = w5.heap.size + 1 by simp] at hO5
    have hU5 : Below w2.heap.size w2 w5 := on_past HU4.out hb5
    have HO5 := Lib.hid hO5
    have HR2 := Lib.hid (HO2.out.rd.below (on_alloc (on_alloc hU5 (.cells #[.int .i64 gk, .int .i64 gs, .int .i64 gv'] 35)) (.cells #[] 5)))
    have HT5 := Lib.hid hT5
    have HU5 := Lib.hid hU5
    clear hO5 hU5 hT5
    go_wp2_with ((at_builtin
                  refine wpList_append_b rfl (.tmp 59) (.tmp 60) rfl (w5.heap.size + 1) (some ⟨w5.heap.size + 1, 0, none⟩) 0 [] rfl HO5.out A2 c2 l rfl HA2.out HR2.out (by simp; omega) (by simp) ?_
                  intro r6 A6 c6 w6 hr6 hown6 hbel6 hgr6 hlen6
                  have e6 : l = r6 := (show r6 = l from hr6.out).symm
                  subst e6
                  obtain ⟨g6, hg6, hg6', eA6⟩ := hown6.at0 (by omega)
                  subst eA6
                  have hc6 : w6.cell? ⟨g6, i, none⟩ = some (.int .u8 (l.getD i 0 : Nat)) := by
                    obtain ⟨b7, o7, e7, _, hc7⟩ := hown6.rd.at_ (by omega)
                    cases e7
                    have := hc7 i hil
                    rw [Nat.zero_add] at this
                    exact this
                  have hf6 : w6.frozen? ⟨g6, i, none⟩ = false := hown6.row.frozenAt i
                  have HO6 := Lib.hid hown6
                  have hT6 : Below w.heap.size w w6 := (on_alloc (on_alloc HT5.out _) _).trans (hbel6.mono (by have := HT5.out.size; omega))
                  have HT6 := Lib.hid hT6
                  have hU6 : Below w2.heap.size w2 w6 := (on_alloc (on_alloc HU5.out _) _).trans (hbel6.mono (by have := HU5.out.size; omega))
                  have HU6 := Lib.hid hU6
                  clear hown6 hgr6 hbel6 hT6 hU6
                  have hwg : w.heap.size ≤ g6 := by have := HT5.out.size; omega
                  have hwg2 : w2.heap.size ≤ g6 := by have := HU5.out.size; omega
                  have lx := getD_lt256 HO6.out.lt i
                  have HTi := Lib.hid (fun t h0 ht hl => HT.out i t hil h0 ht hl)
                  generalize l.getD i 0 = x at hc6 lx HTi
                  clear HT HR2 HO5 HT5 HU5 HT4 HU4 HRd4))
    have hcap2 := HO2.out.cap
    have hcap6 := HO6.out.cap
    have hG2 : ∀ W, Below w2.heap.size w2 W → Calls Try.prog 24 #[.slice A2 i c2] W fun e w' => e = .returned (gv (Fr.get (l.take i))) ∧ Below W.heap.size W w' := fun W hW => by
      have := get_any A2 (l.take i) c2 W ((HO2.out.rd.below hW).take i) (by rw [List.length_take]; omega) hcap2.2 (by rw [List.length_take]; omega)
      rw [show (l.take i).length = i by rw [List.length_take]; omega] at this
      exact this
    have hcut : (Fr.get (l.take i)).err ≠ 0 := HCut.out i hil
    generalize Fr.get (l.take i) = ct at hG2 hcut
    obtain ⟨ck, cs, cv, cn⟩ := ct
    replace hcut : cn ≠ 0 := hcut
    have z2 : (cn != 0) = true := by simpa using hcut
    clear hcut
    have HG2 := Lib.hid hG2
    clear hG2
    have hj : 2 ^ j < 256 ∧ 2 ^ j ≠ 0 := by
      obtain rfl | rfl | rfl | rfl | rfl | rfl | rfl | rfl : j = 0 ∨ j = 1 ∨ j = 2 ∨ j = 3 ∨ j = 4 ∨ j = 5 ∨ j = 6 ∨ j = 7 := by omega
      all_goals decide
    have e1 : bits .xor .u8 (x : Int) (2 ^ j % 256) = ((x ^^^ 2 ^ j : Nat) : Int) := by
      rw [← u8_xor_nat x (2 ^ j) lx hj.1]
      congr 1
      obtain rfl | rfl | rfl | rfl | rfl | rfl | rfl | rfl : j = 0 ∨ j = 1 ∨ j = 2 ∨ j = 3 ∨ j = 4 ∨ j = 5 ∨ j = 6 ∨ j = 7 := by omega
      all_goals rfl
    have lq : x ^^^ 2 ^ j < 256 := xor_lt lx hj.1
    have HN := Lib.hid (fun hl => HTi.out (2 ^ j) hj.2 hj.1 hl)
    have HS := Lib.hid (HO6.out.set_ i (x ^^^ 2 ^ j) hil lq)
    clear HTi hj
    generalize x ^^^ 2 ^ j = y at e1 lq HN HS
    rw [e1]
    have hT7 := Lib.hid (on_set HT6.out (p := ⟨g6, i, none⟩) hwg (.int .u8 y))
    have hU7 := Lib.hid (on_set HU6.out (p := ⟨g6, i, none⟩) hwg2 (.int .u8 y))
    have hG := get_any (some ⟨g6, 0, none⟩) (l.set i y) c6 _ HS.out.rd (by rw [List.length_set]; exact hcap6.1) hcap6.2 (by rw [List.length_set]; omega)
    rw [List.length_set] at hG
    have hne := HN.out HS.out.lt
    generalize Fr.get (l.set i y) = tg at hG hne
    obtain ⟨tk, ts, tv, tn⟩ := tg
    replace hne : tn ≠ 0 := hne
    have z1 : (tn != 0) = true := by simpa using hne
    have HG := Lib.hid hG
    clear hG hne HN
    refine HG.out.mono ?_
    rintro e w8 ⟨rfl, hb8⟩
    unfold gv
    have hT8 := on_past hT7.out hb8
    have hU8 := on_past hU7.out hb8
    go_wp2_with fail
    refine (HG2.out _ (by first | exact hU8 | exact on_alloc hU8 _ | exact on_alloc (on_alloc hU8 _) _)).mono ?_
    rintro e w9 ⟨rfl, hb9⟩
    unfold gv
    have hT9 : Below w.heap.size w w9 := by first | exact on_past hT8 hb9 | exact on_past (on_alloc hT8 _) hb9 | exact on_past (on_alloc (on_alloc hT8 _) _) hb9
    go_wp2_with fail
    first
      | (go_ret
         first | exact ⟨rfl, hT9⟩ | exact ⟨rfl, on_alloc hT9 _⟩ | exact ⟨by simp, on_alloc hT9 _⟩)
      | (go_quiet (fail)
         go_wp2_with fail
         go_ret
         first | exact ⟨rfl, bdN hT9 _⟩ | exact ⟨rfl, bdN (on_alloc hT9 _) _⟩)
      | go_outline
  · by_cases h0 : at_ < 0
    · go_wp2_with fail
      go_ret
      exact ⟨rfl, on_alloc hT5 _⟩
    · have h8 : 8 * (l.length : Int) ≤ at_ := by omega
      go_wp2_with fail
      go_ret
      exact ⟨rfl, on_alloc hT5 _⟩

theorem turned_walk (k s v at_ : Int) (a : Option Addr) (m : List Nat) (c : Nat) (w : World) (hv : -9223372036854775808 ≤ v) (hv' : v ≤ 9223372036854775807)
    (ha : RdB w a m) (hcn : a = none → c = 0) (hcl : m.length ≤ c) (hcm : c ≤ maxLen) :
    Calls Try.prog 9 #[.agg #[.int .i64 k, .int .i64 s, .int .i64 v], .int .i64 at_, .slice a m.length c] w fun e w' => e = .returned (.bool true) ∧ Below w.heap.size w w' := by
  by_cases h : m.length ≤ 100
  · by_cases h1 : Fr.sz k ≠ 0 ∧ Fr.ok k s v
    · exact turned_good k s v at_ a m c w h1 hv hv' h ha hcn hcl hcm
    · exact turned_bad k s v at_ a m c w h1 hv hv' h
  · exact turned_long k s v at_ a m c w (by omega)

end Go.Proofs.Ytfaabjohlimnlaa
