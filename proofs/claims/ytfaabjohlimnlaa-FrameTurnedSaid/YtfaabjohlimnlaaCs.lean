/- The walk of the law CrcSums. No condition. -/
import Derived.Test.YtfaabjohlimnlaaBy
import Derived.Test.YtfaabjohlimnlaaCy
import Derived.Test.YtfaabjohlimnlaaQt
import Derived.Lib.SlBytesConst
import Derived.OwnWalk
namespace Go.Proofs.Ytfaabjohlimnlaa
open Go.ChangeShapes Go.WideShapes Go.RowKit
set_option linter.unusedVariables false
set_option linter.unusedSimpArgs false

theorem nine : (Crc.sum [49, 50, 51, 52, 53, 54, 55, 56, 57]).toNat = 10673 := by decide +kernel

theorem crcAnchor_any (w : World) : Calls Try.prog 15 #[] w fun e w' => e = .returned (.bool true) ∧ Below w.heap.size w w' := by
  have kc := fun (w : World) (C : Array Value) (n c : Nat) => Lib.run_convert_bytes_const (P := Try.prog) w 22 5 C n c Try.underlying22 Try.underlying5
  go_enter Try.func15, Try.ntmps15
  go_wp2_with fail
  clear kc
  refine (sum_any _ [49, 50, 51, 52, 53, 54, 55, 56, 57] 9 _ ⟨by simp, fun _ => ⟨w.heap.size, 0, rfl, by simp, ?_⟩⟩ (by simp)).mono ?_
  · intro i hi
    rw [World.cell?_alloc_mark]
    have : i < 9 := hi
    rcases (by omega : i = 0 ∨ i = 1 ∨ i = 2 ∨ i = 3 ∨ i = 4 ∨ i = 5 ∨ i = 6 ∨ i = 7 ∨ i = 8) with rfl | rfl | rfl | rfl | rfl | rfl | rfl | rfl | rfl <;> rfl
  · rintro e w1 ⟨rfl, rfl⟩
    rw [nine]
    go_wp2_with fail
    go_ret
    exact ⟨rfl, bself _ _⟩

set_option maxHeartbeats 1000000 in
theorem sums_in (a b : Option Addr) (l m : List Nat) (c d : Nat) (w : World) (ha : RdB w a l) (hb : RdB w b m) (hc : a = none → c = 0) (hd : b = none → d = 0) (h1 : l.length ≤ 2000) (h2 : m.length ≤ 2000) :
    Calls Try.prog 3 #[.slice a l.length c, .slice b m.length d] w fun e w' => e = .returned (.bool true) ∧ Below w.heap.size w w' := by
  have HA := Lib.hid ha; clear ha
  have HB := Lib.hid hb; clear hb
  have HC := Lib.hid hc; clear hc
  have HD := Lib.hid hd; clear hd
  go_enter Try.func3, Try.ntmps3
  go_wp2_with fail
  refine (crcAnchor_any _).mono ?_
  rintro e w1 ⟨rfl, hb1⟩
  have hp1 := on_alloc hb1 (.cells #[] 5)
  go_wp2_with (first
    | (at_builtin
       refine wpList_append_b rfl (.tmp 16) (.tmp 17) rfl w1.heap.size (some ⟨w1.heap.size, 0, none⟩) 0 [] rfl (Own.new w1 #[] 0 (by simp) (by simp)) a c l rfl HC.out (HA.out.below hp1) (by simp; omega) (by simp) ?_
       intro r A2 c2 w2 hr hown2 hbel2 hgr2 hlen2)
    | (at_builtin
       refine wpList_append_b rfl (.tmp 18) (.tmp 19) rfl w1.heap.size A2 c2 r rfl hown2 b d m rfl HD.out (HB.out.below (hp1.trans (hbel2.mono hb1.size))) (by rw [show r = _ from hr.out]; simp; omega) (by have := hbel2.size; simp at this; omega) ?_
       intro t A3 c3 w3 ht hown3 hbel3 hgr3 hlen3))
  have hT2 := hp1.trans (hbel2.mono hb1.size)
  have hT3 := hT2.trans (hbel3.mono hb1.size)
  have HO := Lib.hid hown3.rd
  have HR := Lib.hid (show t = l ++ m by rw [show t = _ from ht.out, show r = _ from hr.out]; rfl)
  clear hown2 hgr2 hbel2 hown3 hbel3 hgr3 ht hr hb1 hp1 hT2
  refine (sum_any A3 t c3 _ HO.out hlen3).mono ?_
  rintro e w' ⟨rfl, rfl⟩
  go_wp2_with fail
  have hlen4 : t.length ≤ 1000000 := by rw [show t = _ from HR.out, List.length_append]; omega
  refine (rsum_any A3 t c3 _ HO.out hlen4).mono ?_
  rintro e w' ⟨rfl, n, rfl⟩
  go_wp2_with fail
  refine (sum_any a l c _ ((HA.out.below hT3).drew n) (by omega)).mono ?_
  rintro e w' ⟨rfl, rfl⟩
  go_wp2_with fail
  refine (go_any (Crc.sum l) b m d _ ((HB.out.below hT3).drew n) (by omega)).mono ?_
  rintro e w' ⟨rfl, rfl⟩
  go_wp2_with fail
  refine (sum_any A3 t c3 _ (HO.out.drew n) hlen3).mono ?_
  rintro e w' ⟨rfl, rfl⟩
  have HE := Lib.hid (show Crc.go (Crc.sum l) m = Crc.sum t by rw [show t = _ from HR.out, Crc.sum_append])
  rw [HE.out]
  go_wp2_with fail
  go_ret
  exact ⟨rfl, bdN hT3 n⟩

theorem sums_out (a b : Option Addr) (n m c d : Nat) (w : World) (h : 2000 < n ∨ 2000 < m) :
    Calls Try.prog 3 #[.slice a n c, .slice b m d] w fun e w' => e = .returned (.bool true) ∧ Below w.heap.size w w' := by
  go_enter Try.func3, Try.ntmps3
  go_wp2_with fail
  refine (crcAnchor_any _).mono ?_
  rintro e w1 ⟨rfl, hb1⟩
  by_cases h1 : 2000 < n
  · go_wp2_with fail
    go_ret
    exact ⟨rfl, hb1⟩
  · have h2 : 2000 < m := by omega
    go_wp2_with fail
    go_ret
    exact ⟨rfl, hb1⟩

theorem sums_walk (a b : Option Addr) (l m : List Nat) (c d : Nat) (w : World) (ha : RdB w a l) (hb : RdB w b m) (hc : a = none → c = 0) (hd : b = none → d = 0) :
    Calls Try.prog 3 #[.slice a l.length c, .slice b m.length d] w fun e w' => e = .returned (.bool true) ∧ Below w.heap.size w w' := by
  by_cases h : 2000 < l.length ∨ 2000 < m.length
  · exact sums_out a b l.length m.length c d w h
  · exact sums_in a b l m c d w ha hb hc hd (by omega) (by omega)

end Go.Proofs.Ytfaabjohlimnlaa
