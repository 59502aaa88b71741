/- The walk of the reference's Put of frames: the four bytes. No condition. -/
import Derived.Test.YtfaabjohlimnlaaGq
namespace Go.Proofs.Ytfaabjohlimnlaa
open Go.ChangeShapes Go.WideShapes Go.RowKit Go.Sort
set_option linter.unusedVariables false
set_option linter.unusedSimpArgs false

set_option maxRecDepth 100000 in
set_option maxHeartbeats 2000000 in
theorem rput4n (k s : Nat) (v : Int) (w : World) (hk : k = 3 ∨ k = 4) (hs : s < 256) (hv : -2147483648 ≤ v) (hv' : v < 0) :
    Calls Try.prog 23 #[.agg #[.int .i64 k, .int .i64 s, .int .i64 v]] w fun e w' => ∃ A c, e = .returned (.tuple #[.slice A (Crc.seal_ ([k, s, 4] ++ Fr.be 4 v)).length c, .int .i64 0]) ∧ Own w' w.heap.size A c (Crc.seal_ ([k, s, 4] ++ Fr.be 4 v)) ∧ Below w.heap.size w w' := by
  have hS : ∀ w, Calls Try.prog 37 #[.int .i64 (k : Int)] w fun e w' => e = .returned (.int .i64 4) ∧ Below w.heap.size w w' := fun w => by
    have := rsize_any (k : Int) w
    rcases hk with rfl | rfl <;> exact this
  have HS := Lib.hid hS; clear hS
  have hk1 : k < 256 := by omega
  clear hk
  obtain ⟨u, hu⟩ : ∃ u : Int, u = v + 4294967296 := ⟨_, rfl⟩
  have hu0 : 0 ≤ u := by omega
  have hu1 : u < 4294967296 := by omega
  obtain ⟨x0, hx0⟩ : ∃ x : Nat, x = (u / 16777216).toNat := ⟨_, rfl⟩
  obtain ⟨x1, hx1⟩ : ∃ x : Nat, x = (u / 65536 % 256).toNat := ⟨_, rfl⟩
  obtain ⟨x2, hx2⟩ : ∃ x : Nat, x = (u / 256 % 256).toNat := ⟨_, rfl⟩
  obtain ⟨x3, hx3⟩ : ∃ x : Nat, x = (u % 256).toNat := ⟨_, rfl⟩
  have hbe : Fr.be 4 v = [x0, x1, x2, x3] := by
    rw [Fr.be4, show (v / 16777216 % 256).toNat = x0 by omega, show (v / 65536 % 256).toNat = x1 by omega, show (v / 256 % 256).toNat = x2 by omega, show (v % 256).toNat = x3 by omega]
  have lx0 : x0 < 256 := by omega
  have lx1 : x1 < 256 := by omega
  have lx2 : x2 < 256 := by omega
  have lx3 : x3 < 256 := by omega
  have HBE := Lib.hid hbe
  clear hbe
  have E0 := Lib.hid (show u / 16777216 = (x0 : Int) by omega)
  have E1 := Lib.hid (show u / 65536 % 256 = (x1 : Int) by omega)
  have E2 := Lib.hid (show u / 256 % 256 = (x2 : Int) by omega)
  have E3 := Lib.hid (show u % 256 = (x3 : Int) by omega)
  clear hx0 hx1 hx2 hx3
  have hvu : v + 4294967296 = u := hu.symm
  clear hu
  go_enter Try.func23, Try.ntmps23
  go_wp2_with fail
  refine (HS.out _).mono ?_
  rintro e w1 ⟨rfl, hb1⟩
  have hb0 : Below w.heap.size w w1 := on_past (bself _ _) hb1
  obtain ⟨q0, q1, q2⟩ := after3 hb1
  have zw10 : w.heap.size < w1.heap.size := by have := hb1.size; simp at this; omega
  clear HS
  have g1 : decide ((s : Int) < 0) = false := by simp
  have g2 : decide (255 < (s : Int)) = false := by simp; omega
  have g3 : decide (v < -2147483648) = false := decide_eq_false (by omega)
  have g4 : decide (2147483647 < v) = false := decide_eq_false (by omega)
  have g5 : decide (v < 0) = true := decide_eq_true (by omega)
  have e0 := E0.out
  have e1 := E1.out
  have e2 := E2.out
  have e3 := E3.out
  have hO : Own (w1.alloc (.cells #[.int .u8 k, .int .u8 s, .int .u8 4] 5)) w1.heap.size (some ⟨w1.heap.size, 0, none⟩) 3 [k, s, 4] := Own.lit w1 [k, s, 4] (by simp; omega) (by simp [maxLen])
  have h2 := two_rd (w1.alloc (.cells #[.int .u8 k, .int .u8 s, .int .u8 4] 5)) x0 x1 lx0 lx1
  rw [show (w1.alloc (.cells #[.int .u8 k, .int .u8 s, .int .u8 4] 5)).heap.size = w1.heap.size + 1 by simp] at h2
  have HO := Lib.hid (hO.below (bself _ (.cells #[.int .u8 x0, .int .u8 x1] 5)))
  have H2 := Lib.hid h2
  clear hO h2
  go_wp2_with (first
    | (at_builtin; refine wpList_append_b rfl (.tmp 54) (.tmp 62) rfl w1.heap.size (some ⟨w1.heap.size, 0, none⟩) 3 [k, s, 4] rfl HO.out (some ⟨w1.heap.size + 1, 0, none⟩) 2 [x0, x1] rfl (by simp) H2.out (by simp) (by simp; omega) ?_; intro r1 A1 c1 wa hr1 hown1 hbel1 hgr1 hlen1; have HO1 := Lib.hid hown1; have HB1 := Lib.hid hbel1; have hl1 : r1.length ≤ 100 := (by rw [show r1 = _ from hr1.out]; simp); have zwa : w1.heap.size ≤ wa.heap.size := (by have := hbel1.size; simp at this; omega); clear hown1 hbel1 hgr1)
    | (at_builtin; refine wpList_append_b rfl (.tmp 64) (.tmp 72) rfl w1.heap.size A1 c1 r1 rfl (HO1.out.below (bself _ _)) (some ⟨wa.heap.size, 0, none⟩) 2 [x2, x3] rfl (by simp) (two_rd wa x2 x3 lx2 lx3) (by simp; omega) (by simp; omega) ?_; intro r A2 c2 w2 hr hown2 hbel2 hgr2 hlen2; have HO2 := Lib.hid hown2; have HB2 := Lib.hid hbel2; clear hown2 hbel2 hgr2))
  have hrl : r = [k, s, 4] ++ [x0, x1, x2, x3] := by rw [show r = _ from hr.out, show r1 = _ from hr1.out]; rfl
  have hlr : r.length = 7 := by rw [hrl]; rfl
  have HR := Lib.hid hrl; clear hrl
  refine (rsum_any A2 r c2 _ HO2.out.rd (by omega)).mono ?_
  rintro e w' ⟨rfl, m, rfl⟩
  have hss : (Crc.sum r).toNat < 65536 := (Crc.sum r).isLt
  obtain ⟨S, hS⟩ : ∃ S : Nat, S = (Crc.sum r).toNat := ⟨_, rfl⟩
  rw [← hS] at hss ⊢
  obtain ⟨hi, hhi⟩ : ∃ hi : Nat, hi = S / 256 := ⟨_, rfl⟩
  obtain ⟨lo, hlo⟩ : ∃ lo : Nat, lo = S % 256 := ⟨_, rfl⟩
  have h256 : hi < 256 := by omega
  have l256 : lo < 256 := by omega
  have f1 : (S : Int) / 256 = (hi : Int) := by omega
  have f2 : (S : Int) % 256 = (lo : Int) := by omega
  have hssI : (S : Int) < 65536 := by omega
  have HSS := Lib.hid hS
  have HI := Lib.hid hhi; have LO := Lib.hid hlo
  clear hss hhi hlo hS
  have hTa : Below w.heap.size w wa := (on_alloc (on_alloc hb0 _) _).trans (HB1.out.mono hb0.size)
  have hT2 : Below w.heap.size w w2 := (on_alloc hTa _).trans (HB2.out.mono hb0.size)
  have HW1 := Lib.hid hb0.size
  have hle : w1.heap.size ≤ w2.heap.size := by have := HB2.out.size; simp at this; omega
  have hlr2 : r.length ≤ 100 := by omega
  clear HO H2 e0 e1 e2 e3 g1 g2 g3 g4 g5 q0 q1 q2 hb0 hb1 hlr hlen2 hlen1 hTa
  go_wp2_with ((at_builtin; refine wpList_append_b rfl (.tmp 76) (.tmp 83) rfl w1.heap.size A2 c2 r rfl ((HO2.out.drew m).below (bself _ _)) (some ⟨w2.heap.size, 0, none⟩) 2 [hi, lo] rfl (by simp) (two_rd (w2.drewN m) hi lo h256 l256) (by simp; omega) (by simp; omega) ?_; intro r3 A3 c3 w3 hr3 hown3 hbel3 hgr3 hlen3))
  have hrr : r3 = Crc.seal_ ([k, s, 4] ++ Fr.be 4 v) := by rw [show r3 = _ from hr3.out, Crc.seal_, HBE.out, ← show r = _ from HR.out, ← show S = _ from HSS.out, ← show hi = _ from HI.out, ← show lo = _ from LO.out]
  subst hrr
  have hT3 : Below w.heap.size w w3 := (on_alloc (bdN hT2 m) _).trans (hbel3.mono HW1.out)
  exact bodyPost_ret (v := .tuple #[.slice A3 (Crc.seal_ ([k, s, 4] ++ Fr.be 4 v)).length c3, .int .i64 0]) (by simp [results, Try.results23, go_sem]) rfl ⟨A3, c3, rfl, hown3.mono HW1.out, hT3⟩

set_option maxRecDepth 100000 in
set_option maxHeartbeats 2000000 in
theorem rput4p (k s : Nat) (v : Int) (w : World) (hk : k = 3 ∨ k = 4) (hs : s < 256) (hv : 0 ≤ v) (hv' : v ≤ 2147483647) :
    Calls Try.prog 23 #[.agg #[.int .i64 k, .int .i64 s, .int .i64 v]] w fun e w' => ∃ A c, e = .returned (.tuple #[.slice A (Crc.seal_ ([k, s, 4] ++ Fr.be 4 v)).length c, .int .i64 0]) ∧ Own w' w.heap.size A c (Crc.seal_ ([k, s, 4] ++ Fr.be 4 v)) ∧ Below w.heap.size w w' := by
  have hS : ∀ w, Calls Try.prog 37 #[.int .i64 (k : Int)] w fun e w' => e = .returned (.int .i64 4) ∧ Below w.heap.size w w' := fun w => by
    have := rsize_any (k : Int) w
    rcases hk with rfl | rfl <;> exact this
  have HS := Lib.hid hS; clear hS
  have hk1 : k < 256 := by omega
  clear hk
  obtain ⟨u, hu⟩ : ∃ u : Int, u = v := ⟨_, rfl⟩
  have hu0 : 0 ≤ u := by omega
  have hu1 : u < 4294967296 := by omega
  obtain ⟨x0, hx0⟩ : ∃ x : Nat, x = (u / 16777216).toNat := ⟨_, rfl⟩
  obtain ⟨x1, hx1⟩ : ∃ x : Nat, x = (u / 65536 % 256).toNat := ⟨_, rfl⟩
  obtain ⟨x2, hx2⟩ : ∃ x : Nat, x = (u / 256 % 256).toNat := ⟨_, rfl⟩
  obtain ⟨x3, hx3⟩ : ∃ x : Nat, x = (u % 256).toNat := ⟨_, rfl⟩
  have hbe : Fr.be 4 v = [x0, x1, x2, x3] := by
    rw [Fr.be4, show (v / 16777216 % 256).toNat = x0 by omega, show (v / 65536 % 256).toNat = x1 by omega, show (v / 256 % 256).toNat = x2 by omega, show (v % 256).toNat = x3 by omega]
  have lx0 : x0 < 256 := by omega
  have lx1 : x1 < 256 := by omega
  have lx2 : x2 < 256 := by omega
  have lx3 : x3 < 256 := by omega
  have HBE := Lib.hid hbe
  clear hbe
  have E0 := Lib.hid (show u / 16777216 = (x0 : Int) by omega)
  have E1 := Lib.hid (show u / 65536 % 256 = (x1 : Int) by omega)
  have E2 := Lib.hid (show u / 256 % 256 = (x2 : Int) by omega)
  have E3 := Lib.hid (show u % 256 = (x3 : Int) by omega)
  clear hx0 hx1 hx2 hx3
  subst hu
  go_enter Try.func23, Try.ntmps23
  go_wp2_with fail
  refine (HS.out _).mono ?_
  rintro e w1 ⟨rfl, hb1⟩
  have hb0 : Below w.heap.size w w1 := on_past (bself _ _) hb1
  obtain ⟨q0, q1, q2⟩ := after3 hb1
  have zw10 : w.heap.size < w1.heap.size := by have := hb1.size; simp at this; omega
  clear HS
  have g1 : decide ((s : Int) < 0) = false := by simp
  have g2 : decide (255 < (s : Int)) = false := by simp; omega
  have g3 : decide (u < -2147483648) = false := decide_eq_false (by omega)
  have g4 : decide (2147483647 < u) = false := decide_eq_false (by omega)
  have g5 : decide (u < 0) = false := decide_eq_false (by omega)
  have e0 := E0.out
  have e1 := E1.out
  have e2 := E2.out
  have e3 := E3.out
  have hO : Own (w1.alloc (.cells #[.int .u8 k, .int .u8 s, .int .u8 4] 5)) w1.heap.size (some ⟨w1.heap.size, 0, none⟩) 3 [k, s, 4] := Own.lit w1 [k, s, 4] (by simp; omega) (by simp [maxLen])
  have h2 := two_rd (w1.alloc (.cells #[.int .u8 k, .int .u8 s, .int .u8 4] 5)) x0 x1 lx0 lx1
  rw [show (w1.alloc (.cells #[.int .u8 k, .int .u8 s, .int .u8 4] 5)).heap.size = w1.heap.size + 1 by simp] at h2
  have HO := Lib.hid (hO.below (bself _ (.cells #[.int .u8 x0, .int .u8 x1] 5)))
  have H2 := Lib.hid h2
  clear hO h2
  go_wp2_with (first
    | (at_builtin; refine wpList_append_b rfl (.tmp 54) (.tmp 62) rfl w1.heap.size (some ⟨w1.heap.size, 0, none⟩) 3 [k, s, 4] rfl HO.out (some ⟨w1.heap.size + 1, 0, none⟩) 2 [x0, x1] rfl (by simp) H2.out (by simp) (by simp; omega) ?_; intro r1 A1 c1 wa hr1 hown1 hbel1 hgr1 hlen1; have HO1 := Lib.hid hown1; have HB1 := Lib.hid hbel1; have hl1 : r1.length ≤ 100 := (by rw [show r1 = _ from hr1.out]; simp); have zwa : w1.heap.size ≤ wa.heap.size := (by have := hbel1.size; simp at this; omega); clear hown1 hbel1 hgr1)
    | (at_builtin; refine wpList_append_b rfl (.tmp 64) (.tmp 72) rfl w1.heap.size A1 c1 r1 rfl (HO1.out.below (bself _ _)) (some ⟨wa.heap.size, 0, none⟩) 2 [x2, x3] rfl (by simp) (two_rd wa x2 x3 lx2 lx3) (by simp; omega) (by simp; omega) ?_; intro r A2 c2 w2 hr hown2 hbel2 hgr2 hlen2; have HO2 := Lib.hid hown2; have HB2 := Lib.hid hbel2; clear hown2 hbel2 hgr2))
  have hrl : r = [k, s, 4] ++ [x0, x1, x2, x3] := by rw [show r = _ from hr.out, show r1 = _ from hr1.out]; rfl
  have hlr : r.length = 7 := by rw [hrl]; rfl
  have HR := Lib.hid hrl; clear hrl
  refine (rsum_any A2 r c2 _ HO2.out.rd (by omega)).mono ?_
  rintro e w' ⟨rfl, m, rfl⟩
  have hss : (Crc.sum r).toNat < 65536 := (Crc.sum r).isLt
  obtain ⟨S, hS⟩ : ∃ S : Nat, S = (Crc.sum r).toNat := ⟨_, rfl⟩
  rw [← hS] at hss ⊢
  obtain ⟨hi, hhi⟩ : ∃ hi : Nat, hi = S / 256 := ⟨_, rfl⟩
  obtain ⟨lo, hlo⟩ : ∃ lo : Nat, lo = S % 256 := ⟨_, rfl⟩
  have h256 : hi < 256 := by omega
  have l256 : lo < 256 := by omega
  have f1 : (S : Int) / 256 = (hi : Int) := by omega
  have f2 : (S : Int) % 256 = (lo : Int) := by omega
  have hssI : (S : Int) < 65536 := by omega
  have HSS := Lib.hid hS
  have HI := Lib.hid hhi; have LO := Lib.hid hlo
  clear hss hhi hlo hS
  have hTa : Below w.heap.size w wa := (on_alloc (on_alloc hb0 _) _).trans (HB1.out.mono hb0.size)
  have hT2 : Below w.heap.size w w2 := (on_alloc hTa _).trans (HB2.out.mono hb0.size)
  have HW1 := Lib.hid hb0.size
  have hle : w1.heap.size ≤ w2.heap.size := by have := HB2.out.size; simp at this; omega
  have hlr2 : r.length ≤ 100 := by omega
  clear HO H2 e0 e1 e2 e3 g1 g2 g3 g4 g5 q0 q1 q2 hb0 hb1 hlr hlen2 hlen1 hTa
  go_wp2_with ((at_builtin; refine wpList_append_b rfl (.tmp 76) (.tmp 83) rfl w1.heap.size A2 c2 r rfl ((HO2.out.drew m).below (bself _ _)) (some ⟨w2.heap.size, 0, none⟩) 2 [hi, lo] rfl (by simp) (two_rd (w2.drewN m) hi lo h256 l256) (by simp; omega) (by simp; omega) ?_; intro r3 A3 c3 w3 hr3 hown3 hbel3 hgr3 hlen3))
  have hrr : r3 = Crc.seal_ ([k, s, 4] ++ Fr.be 4 u) := by rw [show r3 = _ from hr3.out, Crc.seal_, HBE.out, ← show r = _ from HR.out, ← show S = _ from HSS.out, ← show hi = _ from HI.out, ← show lo = _ from LO.out]
  subst hrr
  have hT3 : Below w.heap.size w w3 := (on_alloc (bdN hT2 m) _).trans (hbel3.mono HW1.out)
  exact bodyPost_ret (v := .tuple #[.slice A3 (Crc.seal_ ([k, s, 4] ++ Fr.be 4 u)).length c3, .int .i64 0]) (by simp [results, Try.results23, go_sem]) rfl ⟨A3, c3, rfl, hown3.mono HW1.out, hT3⟩

end Go.Proofs.Ytfaabjohlimnlaa
