/- The walk of the reference's Put of frames: the bytes. No condition. -/
import Derived.Test.YtfaabjohlimnlaaGp
import Derived.Test.YtfaabjohlimnlaaCy
namespace Go.Proofs.Ytfaabjohlimnlaa
open Go.ChangeShapes Go.WideShapes Go.RowKit Go.Sort
set_option linter.unusedVariables false
set_option linter.unusedSimpArgs false

set_option maxRecDepth 100000 in
set_option maxHeartbeats 2000000 in
theorem rput2 (k s u : Nat) (w : World) (hk : k = 1 ∨ k = 2 ∨ k = 5) (hs : s < 256) (hv : u < 65536) :
    Calls Try.prog 23 #[.agg #[.int .i64 k, .int .i64 s, .int .i64 u]] w fun e w' => ∃ A c, e = .returned (.tuple #[.slice A (Crc.seal_ ([k, s, 2] ++ Fr.be 2 u)).length c, .int .i64 0]) ∧ Own w' w.heap.size A c (Crc.seal_ ([k, s, 2] ++ Fr.be 2 u)) ∧ Below w.heap.size w w' := by
  have hS : ∀ w, Calls Try.prog 37 #[.int .i64 (k : Int)] w fun e w' => e = .returned (.int .i64 2) ∧ Below w.heap.size w w' := fun w => by
    have := rsize_any (k : Int) w
    rcases hk with rfl | rfl | rfl <;> exact this
  have HS := Lib.hid hS; clear hS
  have hk1 : k < 256 := by omega
  clear hk
  obtain ⟨x0, hx0⟩ : ∃ x : Nat, x = u / 256 := ⟨_, rfl⟩
  obtain ⟨x1, hx1⟩ : ∃ x : Nat, x = u % 256 := ⟨_, rfl⟩
  have hbe : Fr.be 2 u = [x0, x1] := by rw [Fr.be2, show ((u : Int) / 256 % 256).toNat = x0 by omega, show ((u : Int) % 256).toNat = x1 by omega]
  have lx0 : x0 < 256 := by omega
  have lx1 : x1 < 256 := by omega
  have HBE := Lib.hid hbe
  clear hbe
  have HX := Lib.hid (show u = 256 * x0 + x1 by omega)
  have hvI : (u : Int) < 65536 := by omega
  clear hv hx0 hx1
  go_enter Try.func23, Try.ntmps23
  go_wp2_with fail
  refine (HS.out _).mono ?_
  rintro e w1 ⟨rfl, hb1⟩
  have hb0 : Below w.heap.size w w1 := on_past (bself _ _) hb1
  obtain ⟨q0, q1, q2⟩ := after3 hb1
  have zw10 : w.heap.size < w1.heap.size := by have := hb1.size; simp at this; omega
  clear HS
  have g1 : decide ((s : Int) < 0) = false := by simp
  have g2 : decide (255 < (s : Int)) = false := by simp; omega
  have g3 : decide ((u : Int) < 0) = false := by simp
  have g4 : decide (65535 < (u : Int)) = false := decide_eq_false (by omega)
  have e0 : (u : Int) / 256 % 256 = (x0 : Int) := by have := HX.out; omega
  have e1 : (u : Int) % 256 = (x1 : Int) := by have := HX.out; omega
  have hO : Own (w1.alloc (.cells #[.int .u8 k, .int .u8 s, .int .u8 2] 5)) w1.heap.size (some ⟨w1.heap.size, 0, none⟩) 3 [k, s, 2] := Own.lit w1 [k, s, 2] (by simp; omega) (by simp [maxLen])
  have h2 := two_rd (w1.alloc (.cells #[.int .u8 k, .int .u8 s, .int .u8 2] 5)) x0 x1 lx0 lx1
  rw [show (w1.alloc (.cells #[.int .u8 k, .int .u8 s, .int .u8 2] 5)).heap.size = w1.heap.size + 1 by simp] at h2
  have HO := Lib.hid (hO.below (bself _ (.cells #[.int .u8 x0, .int .u8 x1] 5)))
  have H2 := Lib.hid h2
  clear hO h2
  go_wp2_with ((at_builtin; refine wpList_append_b rfl (.tmp 64) (.tmp 72) rfl w1.heap.size (some ⟨w1.heap.size, 0, none⟩) 3 [k, s, 2] rfl HO.out (some ⟨w1.heap.size + 1, 0, none⟩) 2 [x0, x1] rfl (by simp) H2.out (by simp) (by simp; omega) ?_; intro r A2 c2 w2 hr hown2 hbel2 hgr2 hlen2; have HO2 := Lib.hid hown2; have HB2 := Lib.hid hbel2; clear hown2 hbel2 hgr2))
  have hlr : r.length = 5 := by rw [show r = _ from hr.out]; rfl
  refine (rsum_any A2 r c2 _ HO2.out.rd (by omega)).mono ?_
  rintro e w' ⟨rfl, m, rfl⟩
  have hss : (Crc.sum r).toNat < 65536 := (Crc.sum r).isLt
  have HS := Lib.hid (show (Crc.sum r).toNat = (Crc.sum r).toNat from rfl)
  obtain ⟨S, hS⟩ : ∃ S : Nat, S = (Crc.sum r).toNat := ⟨_, rfl⟩
  rw [← hS] at hss ⊢
  obtain ⟨hi, hhi⟩ : ∃ hi : Nat, hi = S / 256 := ⟨_, rfl⟩
  obtain ⟨lo, hlo⟩ : ∃ lo : Nat, lo = S % 256 := ⟨_, rfl⟩
  have h256 : hi < 256 := by omega
  have l256 : lo < 256 := by omega
  have f1 : (S : Int) / 256 = (hi : Int) := by omega
  have f2 : (S : Int) % 256 = (lo : Int) := by omega
  have hssI : (S : Int) < 65536 := by omega
  have HSS := Lib.hid hS
  have HI := Lib.hid hhi; have LO := Lib.hid hlo
  clear hss hhi hlo hS HS
  have hT2 : Below w.heap.size w w2 := (on_alloc (on_alloc hb0 _) _).trans (HB2.out.mono hb0.size)
  have HW1 := Lib.hid hb0.size
  have hle : w1.heap.size ≤ w2.heap.size := by have := HB2.out.size; simp at this; omega
  have hlr2 : r.length ≤ 100 := by omega
  clear HO H2 e0 e1 g1 g2 g3 g4 q0 q1 q2 hb0 hb1 hlr hlen2
  go_wp2_with ((at_builtin; refine wpList_append_b rfl (.tmp 76) (.tmp 83) rfl w1.heap.size A2 c2 r rfl ((HO2.out.drew m).below (bself _ _)) (some ⟨w2.heap.size, 0, none⟩) 2 [hi, lo] rfl (by simp) (two_rd (w2.drewN m) hi lo h256 l256) (by simp; omega) (by simp; omega) ?_; intro r3 A3 c3 w3 hr3 hown3 hbel3 hgr3 hlen3))
  have hrr : r3 = Crc.seal_ ([k, s, 2] ++ Fr.be 2 u) := by rw [show r3 = _ from hr3.out, Crc.seal_, HBE.out, ← show r = _ from hr.out, ← show S = _ from HSS.out, ← show hi = _ from HI.out, ← show lo = _ from LO.out]
  subst hrr
  have hT3 : Below w.heap.size w w3 := (on_alloc (bdN hT2 m) _).trans (hbel3.mono HW1.out)
  exact bodyPost_ret (v := .tuple #[.slice A3 (Crc.seal_ ([k, s, 2] ++ Fr.be 2 u)).length c3, .int .i64 0]) (by simp [results, Try.results23, go_sem]) rfl ⟨A3, c3, rfl, hown3.mono HW1.out, hT3⟩

end Go.Proofs.Ytfaabjohlimnlaa
