/- The walks of crc's Seal and Open. No condition. -/
import Derived.Test.YtfaabjohlimnlaaBz
import Derived.Test.YtfaabjohlimnlaaQt
namespace Go.Proofs.Ytfaabjohlimnlaa
open Go.ChangeShapes Go.WideShapes Go.RowKit
set_option linter.unusedVariables false
set_option linter.unusedSimpArgs false

/-- bytes with their sum behind -/
def Crc.seal_ (l : List Nat) : List Nat := l ++ [(Crc.sum l).toNat / 256, (Crc.sum l).toNat % 256]
theorem Crc.seal_lt {l : List Nat} (h : ∀ x ∈ l, x < 256) : ∀ x ∈ Crc.seal_ l, x < 256 := by
  intro x hx
  have := (Crc.sum l).isLt
  simp only [Crc.seal_, List.mem_append, List.mem_cons, List.not_mem_nil, or_false] at hx
  rcases hx with hx | rfl | rfl
  · exact h x hx
  · omega
  · omega

/-- what a call returns: these bytes, in memory of its own -/
def RetB (w : World) (r : List Nat) (e : Ending) (w' : World) : Prop :=
  ∃ A c, e = .returned (.slice A r.length c) ∧ Own w' w.heap.size A c r ∧ Below w.heap.size w w'

theorem two_rd (w : World) (x y : Nat) (hx : x < 256) (hy : y < 256) : RdB (w.alloc (.cells #[.int .u8 x, .int .u8 y] 5)) (some ⟨w.heap.size, 0, none⟩) [x, y] := by
  have := (Own.lit w [x, y] (by simp; omega) (by simp [maxLen])).rd
  simpa [bv] using this

set_option maxHeartbeats 1000000 in
theorem seal_any (a : Option Addr) (l : List Nat) (c : Nat) (w : World) (ha : RdB w a l) (hn : l.length ≤ 100000000000) :
    Calls Try.prog 19 #[.slice a l.length c] w (RetB w (Crc.seal_ l)) := by
  have HA := Lib.hid ha; clear ha
  go_enter Try.func19, Try.ntmps19
  go_wp2_with fail
  refine (sum_any a l c _ HA.out (by omega)).mono ?_
  rintro e w' ⟨rfl, rfl⟩
  have hs := v_lt (Crc.sum l)
  obtain ⟨s, hs0⟩ : ∃ s : Nat, s = (Crc.sum l).toNat := ⟨_, rfl⟩
  rw [← hs0] at hs ⊢
  have HS := Lib.hid hs0; clear hs0
  obtain ⟨hi, hhi⟩ : ∃ hi : Nat, hi = s / 256 := ⟨_, rfl⟩
  obtain ⟨lo, hlo⟩ : ∃ lo : Nat, lo = s % 256 := ⟨_, rfl⟩
  have h256 : hi < 256 := by omega
  have l256 : lo < 256 := by omega
  have e1 : IntKind.u8.wrap ((s : Int) / 256) = (hi : Int) := by rw [IntKind.wrap_u8']; omega
  have e2 : IntKind.u8.wrap (s : Int) = (lo : Int) := by rw [IntKind.wrap_u8']; omega
  have HI := Lib.hid hhi; clear hhi
  have LO := Lib.hid hlo; clear hlo
  have hl : l.take (List.replicate l.length 0).length = l := by simp
  have HLt := Lib.hid hl; clear hl
  go_wp2_with (first
    | (at_make; refine wpList_make_b rfl (.tmp 8) (.tmp 11) rfl w.heap.size l.length (l.length + 2) _ _ rfl rfl rfl (by omega) (by omega) (by omega) (Nat.le_refl _) ?_; intro w1 hown1 hgr1; have hb1 : Below w.heap.size w w1 := grown_below hgr1 (Nat.le_refl _) (by simp))
    | (refine wpList_copy_b rfl (.tmp 13) (.tmp 14) rfl w.heap.size w.heap.size (l.length + 2) (List.replicate l.length 0) l.length (by simp) rfl hown1 a c l rfl (HA.out.below hb1) (by simp) ?_; intro w2 v hown2 hbel2; rw [HLt.out] at hown2; have hT2 := hb1.trans hbel2; have HO2 := Lib.hid hown2; clear hown1 hown2 hgr1 hb1 hbel2)
    | (at_builtin; refine wpList_append_b rfl (.tmp 16) (.tmp 22) rfl w.heap.size (some ⟨w.heap.size, 0, none⟩) (l.length + 2) l rfl (HO2.out.below (bself _ _)) (some ⟨w2.heap.size, 0, none⟩) 2 [hi, lo] rfl (by simp) (two_rd w2 hi lo h256 l256) (by simp; omega) (by have := hT2.size; simp; omega) ?_; intro r A3 c3 w3 hr hown3 hbel3 hgr3 hlen3))
  go_ret
  have hrr : r = Crc.seal_ l := by rw [show r = _ from hr.out, Crc.seal_, ← show s = _ from HS.out, ← show hi = _ from HI.out, ← show lo = _ from LO.out]
  subst hrr
  exact ⟨A3, c3, rfl, hown3, (on_alloc hT2 _).trans hbel3⟩

/-- bytes without their sum, if it is theirs -/
def RetO (w : World) (l : List Nat) (e : Ending) (w' : World) : Prop :=
  Below w.heap.size w w' ∧
  ((¬ (2 ≤ l.length ∧ Crc.sum l = 0) ∧ e = .returned (.tuple #[.slice none 0 0, .bool false])) ∨
   ((2 ≤ l.length ∧ Crc.sum l = 0) ∧ ∃ c, e = .returned (.tuple #[.slice (some ⟨w.heap.size, 0, none⟩) (l.length - 2) c, .bool true]) ∧ Own w' w.heap.size (some ⟨w.heap.size, 0, none⟩) c (l.take (l.length - 2))))

set_option maxHeartbeats 1000000 in
theorem open_any (a : Option Addr) (l : List Nat) (c : Nat) (w : World) (ha : RdB w a l) (hn : l.length ≤ 100000000000) :
    Calls Try.prog 20 #[.slice a l.length c] w (RetO w l) := by
  have HA := Lib.hid ha; clear ha
  by_cases h2 : l.length < 2
  · go_enter Try.func20, Try.ntmps20
    go_wp2_with fail
    go_ret2
    exact ⟨Below.refl _ _, .inl ⟨by omega, rfl⟩⟩
  · by_cases hz : Crc.sum l = 0
    · have HZ := Lib.hid hz; clear hz
      have e0 : (Crc.sum l).toNat = 0 := by rw [HZ.out]; rfl
      go_enter Try.func20, Try.ntmps20
      go_wp2_with fail
      refine (sum_any a l c _ HA.out (by omega)).mono ?_
      rintro e w' ⟨rfl, rfl⟩
      rw [e0]
      clear e0
      have HLt := Lib.hid (show l.take (List.replicate (l.length - 2) 0).length = l.take (l.length - 2) by simp)
      go_wp2_with (first
        | (at_make; refine wpList_make_b rfl (.tmp 15) (.tmp 15) rfl w.heap.size (l.length - 2) (l.length - 2) _ _ rfl rfl (by omega) (by omega) (by omega) (by omega) (Nat.le_refl _) ?_; intro w1 hown1 hgr1; have hb1 : Below w.heap.size w w1 := grown_below hgr1 (Nat.le_refl _) (by simp))
        | (refine wpList_copy_b rfl (.tmp 17) (.tmp 18) rfl w.heap.size w.heap.size (l.length - 2) (List.replicate (l.length - 2) 0) (l.length - 2) (by simp) rfl hown1 a c l rfl (HA.out.below hb1) (by simp) ?_; intro w2 v hown2 hbel2; rw [HLt.out] at hown2; have hT2 := hb1.trans hbel2; have HO2 := Lib.hid hown2; clear hown1 hown2 hgr1 hb1 hbel2))
      go_ret2
      exact ⟨hT2, .inr ⟨⟨by omega, HZ.out⟩, l.length - 2, rfl, HO2.out⟩⟩
    · have e0 : (((Crc.sum l).toNat : Int) != 0) = true := by
        rw [bne_iff_ne]
        intro h
        apply hz
        apply BitVec.eq_of_toNat_eq
        simpa using h
      go_enter Try.func20, Try.ntmps20
      go_wp2_with fail
      refine (sum_any a l c _ HA.out (by omega)).mono ?_
      rintro e w' ⟨rfl, rfl⟩
      go_wp2_with fail
      go_ret2
      exact ⟨Below.refl _ _, .inl ⟨fun h => hz h.2, rfl⟩⟩

end Go.Proofs.Ytfaabjohlimnlaa
