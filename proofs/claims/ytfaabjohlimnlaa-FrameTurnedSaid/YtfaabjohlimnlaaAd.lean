/- The walk of the law CrcAdds. No condition. -/
import Derived.Test.YtfaabjohlimnlaaCs
import Derived.Test.YtfaabjohlimnlaaBz
import Derived.Deep.DeepCutAuto
import Derived.WalkLawsBesides
import Derived.Test.YtfaabjohlimnlaaQt
namespace Go.Proofs.Ytfaabjohlimnlaa
open Go.ChangeShapes Go.WideShapes Go.RowKit Go.Sort
set_option linter.unusedVariables false
set_option linter.unusedSimpArgs false

/-- three texts put into one another, as far as i; noughts behind -/
def mix (a b d : List Nat) (n i : Nat) : List Nat := (List.range n).map fun j => if j < i then (a.getD j 0 ^^^ b.getD j 0) ^^^ d.getD j 0 else 0
theorem mix_len (a b d : List Nat) (n i : Nat) : (mix a b d n i).length = n := by simp [mix]
theorem mix_zero (a b d : List Nat) (n : Nat) : mix a b d n 0 = List.replicate n 0 := by
  apply List.ext_getElem?
  intro j
  by_cases hj : j < n <;> simp [mix, hj]
theorem mix_next (a b d : List Nat) (n i : Nat) : mix a b d n (i + 1) = (mix a b d n i).set i ((a.getD i 0 ^^^ b.getD i 0) ^^^ d.getD i 0) := by
  apply List.ext_getElem?
  intro j
  by_cases hj : j < n
  · rw [List.getElem?_set]
    by_cases hij : i = j
    · subst hij; simp [mix, hj]
    · simp only [hij, if_false]
      simp only [mix, List.getElem?_map, List.getElem?_range hj, Option.map_some, Option.some.injEq]
      by_cases h1 : j < i
      · rw [if_pos h1, if_pos (by omega)]
      · rw [if_neg h1, if_neg (by omega)]
  · rw [List.getElem?_eq_none (by rw [mix_len]; omega), List.getElem?_eq_none (by rw [List.length_set, mix_len]; omega)]
theorem xor_lt {a b : Nat} (ha : a < 256) (hb : b < 256) : a ^^^ b < 256 := Nat.xor_lt_two_pow (n := 8) ha hb

theorem mix_sum (a b d : List Nat) (n : Nat) (ha : n ≤ a.length) (hb : n ≤ b.length) (hd : n ≤ d.length) :
    Crc.sum (mix a b d n n) = (Crc.sum (a.take n) ^^^ Crc.sum (b.take n)) ^^^ Crc.sum (d.take n) := by
  have h := Crc.go_xor3 65535#16 65535#16 65535#16 (a.take n) (b.take n) (d.take n) (by simp; omega) (by simp; omega)
  have e : mix a b d n n = (List.range (a.take n).length).map fun i => ((a.take n).getD i 0 ^^^ (b.take n).getD i 0) ^^^ (d.take n).getD i 0 := by
    unfold mix
    rw [List.length_take, Nat.min_eq_left ha]
    apply List.map_congr_left
    intro j hj
    rw [List.mem_range] at hj
    simp [hj, List.getD, List.getElem?_take]
  show Crc.go 65535#16 (mix a b d n n) = _
  rw [e]
  exact h

/-- a byte of a row of the call's own is stored -/
theorem Own.set_ {w : World} {base g c : Nat} {l : List Nat} (h : Own w base (some ⟨g, 0, none⟩) c l) (i x : Nat) (hi : i < l.length) (hx : x < 256) : Own (w.setCell ⟨g, i, none⟩ (.int .u8 x)) base (some ⟨g, 0, none⟩) c (l.set i x) := by
  have h1 := h.row.stored i (.int .u8 x)
  refine ⟨?_, ?_⟩
  · rw [List.length_set, List.map_set]
    exact h1.1
  · intro y hy
    rcases List.mem_or_eq_of_mem_set hy with hy | rfl
    · exact h.lt y hy
    · exact hx

theorem run_min4 {P : Program} (w : World) (ts : Array TypeId) (t : TypeId) (x y z u n : Int) (h : n = (if u < (if z < (if y < x then y else x) then z else (if y < x then y else x)) then u else (if z < (if y < x then y else x) then z else (if y < x then y else x)))) :
    (Builtin.min_ ts t #[.int .i64 x, .int .i64 y, .int .i64 z, .int .i64 u]).run P w = .ok (.int .i64 n) w := by
  subst h
  simp [Builtin.min_, Builtin.min2, Sem.run_pure, Result.andThen]

set_option maxHeartbeats 1000000 in
theorem adds_walk (a b d : Option Addr) (l m k : List Nat) (ca cb cd : Nat) (w : World) (ha : RdB w a l) (hb : RdB w b m) (hd : RdB w d k) (hca : l.length ≤ ca) (hcb : m.length ≤ cb) (hcd : k.length ≤ cd) (hca' : ca ≤ maxLen) (hcb' : cb ≤ maxLen) (hcd' : cd ≤ maxLen) :
    Calls Try.prog 4 #[.slice a l.length ca, .slice b m.length cb, .slice d k.length cd] w fun e w' => e = .returned (.bool true) ∧ Below w.heap.size w w' := by
  have HA := Lib.hid ha; clear ha
  have HB := Lib.hid hb; clear hb
  have HD := Lib.hid hd; clear hd
  unfold maxLen at hca' hcb' hcd'
  go_enter Try.func4, Try.ntmps4
  go_wp2_with fail
  refine (crcAnchor_any _).mono ?_
  rintro e w1 ⟨rfl, hb1⟩
  obtain ⟨n, hn⟩ : ∃ n : Nat, n = min (min (min l.length m.length) k.length) 1000 := ⟨_, rfl⟩
  have n1 : n ≤ l.length := by omega
  have n2 : n ≤ m.length := by omega
  have n3 : n ≤ k.length := by omega
  have n4 : n ≤ 1000 := by omega
  have hmin : ∀ (w : World) (ts : Array TypeId) (t : TypeId), (Builtin.min_ ts t #[.int .i64 (l.length : Int), .int .i64 (m.length : Int), .int .i64 (k.length : Int), .int .i64 1000]).run Try.prog w = .ok (.int .i64 (n : Int)) w := fun w ts t => run_min4 w ts t _ _ _ _ _ (by split <;> split <;> split <;> omega)
  clear hn
  go_wp2_with ((at_make; refine wpList_make_b rfl (.tmp 19) (.tmp 19) rfl w1.heap.size n n _ _ rfl rfl rfl rfl (by omega) (by omega) (Nat.le_refl _) ?_; intro w2 hown2 hgr2; have hb2 : Below w1.heap.size w1 w2 := grown_below hgr2 (Nat.le_refl _) (by simp); clear hmin))
  have HO2 := Lib.hid hown2; clear hown2 hgr2
  go_loopg [23] n (fun r s23 wr => ∃ i : Nat, Hid (i + r = n) ∧ i ≤ n ∧ s23 = .int .i64 i ∧ Hid (Own wr w1.heap.size (some ⟨w1.heap.size, 0, none⟩) n (mix l m k n i)) ∧ Below w1.heap.size w1 wr)
  case atStart => exact ⟨0, by simp [Hid], by omega, rfl, by rw [mix_zero]; exact HO2.out, hb2⟩
  case round =>
    obtain ⟨i, hi, hin, rfl, HO, hbr⟩ := hrel
    have hT := hb1.trans (hbr.mono hb1.size)
    by_cases hlt : i < n
    · obtain ⟨ba, oa, rfl, hla, hca2⟩ := HA.out.at_ (by omega)
      obtain ⟨bb, ob, rfl, hlb, hcb2⟩ := HB.out.at_ (by omega)
      obtain ⟨bd, od, rfl, hld, hcd2⟩ := HD.out.at_ (by omega)
      have xa := (hT.cell (p := ⟨ba, oa + i, none⟩) hla).trans (hca2 i (by omega))
      have xb := (hT.cell (p := ⟨bb, ob + i, none⟩) hlb).trans (hcb2 i (by omega))
      have xd := (hT.cell (p := ⟨bd, od + i, none⟩) hld).trans (hcd2 i (by omega))
      have la := getD_lt256 HA.out.lt i
      have lb := getD_lt256 HB.out.lt i
      have ld := getD_lt256 HD.out.lt i
      have za : ba < wr.heap.size := Nat.lt_of_lt_of_le hla hT.size
      have zb : bb < wr.heap.size := Nat.lt_of_lt_of_le hlb hT.size
      have zd : bd < wr.heap.size := Nat.lt_of_lt_of_le hld hT.size
      clear hca2 hcb2 hcd2
      have HM := Lib.hid (mix_next l m k n i)
      have hxx : ∃ x, x = l.getD i 0 := ⟨_, rfl⟩
      generalize l.getD i 0 = x at xa la HM
      generalize m.getD i 0 = y at xb lb HM
      generalize k.getD i 0 = z at xd ld HM
      have e1 := u8_xor_nat x y la lb
      have lp := xor_lt la lb
      generalize x ^^^ y = p at e1 lp HM
      have e2 := u8_xor_nat p z lp ld
      have lq := xor_lt lp ld
      generalize p ^^^ z = q at e2 lq HM
      clear hxx
      have HO' := HO.out
      have hlen := mix_len l m k n i
      generalize mix l m k n i = mx at HO' HM hlen
      have HO2' := Lib.hid HO'
      have Hlen := Lib.hid hlen
      clear HO' hlen HO
      go_wp2_with fail
      refine wp_region_past_tail 17 (by kernel_rfl) (by kernel_rfl) (fun hG => ?_)
      simp only [List.take_succ_cons, List.take_zero, List.drop_succ_cons, List.drop_zero]
      repeat (go_big_quiet_step (fail))
      refine wpQuiet_nil ?_
      intro w3 hb3
      have ho3 := HO2'.out.below hb3
      have hc3 : w3.cell? ⟨w1.heap.size, i, none⟩ = some (bv (mx.getD i 0)) := by
        rw [ho3.row.cellAt i (by have := Hlen.out; omega), List.getElem?_map, List.getD, List.getElem?_eq_getElem (by have := Hlen.out; omega)]
        rfl
      have hf3 : w3.frozen? ⟨w1.heap.size, i, none⟩ = false := ho3.row.frozenAt i
      have HO3 := Lib.hid ho3
      clear hG ho3
      go_wp2_with fail
      go_roundg (gk - 1)
      case measure => have := hi.out; omega
      case rel =>
        refine ⟨i + 1, show i + 1 + (gk - 1) = n by have := hi.out; omega, by omega, by go_num, ?_, on_set (on_past hbr hb3) (Nat.le_refl _) _⟩
        rw [HM.out]
        have := HO3.out.set_ i q (by have := Hlen.out; omega) lq
        exact this
    · obtain rfl : i = n := by omega
      have hlen := mix_len l m k i i
      have la : (l.take i).length = i := by rw [List.length_take]; omega
      have lb : (m.take i).length = i := by rw [List.length_take]; omega
      have ld : (k.take i).length = i := by rw [List.length_take]; omega
      have hms := mix_sum l m k i n1 n2 n3
      have h0 : ∀ j, Calls Try.prog 16 #[.slice (some ⟨w1.heap.size, 0, none⟩) i i] (wr.drewN j) fun e w' => e = .returned (.int .u16 ((Crc.sum (mix l m k i i)).toNat : Int)) ∧ wr.drewN j = w' := fun j => by
        have h := sum_any (some ⟨w1.heap.size, 0, none⟩) (mix l m k i i) i (wr.drewN j) (HO.out.rd.drew j) (by omega)
        rw [hlen] at h
        exact h
      have h1 : ∀ j, Calls Try.prog 16 #[.slice a i ca] (wr.drewN j) fun e w' => e = .returned (.int .u16 ((Crc.sum (l.take i)).toNat : Int)) ∧ wr.drewN j = w' := fun j => by
        have h := sum_any a (l.take i) ca (wr.drewN j) (((HA.out.below hT).take i).drew j) (by omega)
        rw [la] at h
        exact h
      have h2 : ∀ j, Calls Try.prog 16 #[.slice b i cb] (wr.drewN j) fun e w' => e = .returned (.int .u16 ((Crc.sum (m.take i)).toNat : Int)) ∧ wr.drewN j = w' := fun j => by
        have h := sum_any b (m.take i) cb (wr.drewN j) (((HB.out.below hT).take i).drew j) (by omega)
        rw [lb] at h
        exact h
      have h3 : ∀ j, Calls Try.prog 16 #[.slice d i cd] (wr.drewN j) fun e w' => e = .returned (.int .u16 ((Crc.sum (k.take i)).toNat : Int)) ∧ wr.drewN j = w' := fun j => by
        have h := sum_any d (k.take i) cd (wr.drewN j) (((HD.out.below hT).take i).drew j) (by omega)
        rw [ld] at h
        exact h
      have e1 := xor_v (Crc.sum (l.take i)) (Crc.sum (m.take i))
      have e2 := xor_v (Crc.sum (l.take i) ^^^ Crc.sum (m.take i)) (Crc.sum (k.take i))
      rw [← hms] at e2
      clear hms
      generalize Crc.sum (l.take i) ^^^ Crc.sum (m.take i) = T at e1 e2
      generalize Crc.sum (mix l m k i i) = S0 at h0 e2
      generalize Crc.sum (l.take i) = S1 at h1 e1
      generalize Crc.sum (m.take i) = S2 at h2 e1
      generalize Crc.sum (k.take i) = S3 at h3 e2
      have H0 := Lib.hid h0
      have H1 := Lib.hid h1
      have H2 := Lib.hid h2
      have H3 := Lib.hid h3
      clear h0 h1 h2 h3 hlen la lb ld
      go_wp2_with fail
      go_quiet ((go_at_call 16; first | with_reducible exact quiet_eq (H0.out _) | with_reducible exact quiet_eq (H1.out _) | with_reducible exact quiet_eq (H2.out _) | with_reducible exact quiet_eq (H3.out _)))
      go_wp2_with fail
      go_ret
      exact ⟨rfl, bdN hT _⟩

end Go.Proofs.Ytfaabjohlimnlaa
