/- The walks of the package frame: size, signed, back, Put. No condition. -/
import Derived.Test.YtfaabjohlimnlaaFm
import Derived.Test.YtfaabjohlimnlaaSe
import Derived.Deep.DeepCutAuto
namespace Go.Proofs.Ytfaabjohlimnlaa
open Go.ChangeShapes Go.WideShapes Go.RowKit Go.Sort
set_option linter.unusedVariables false
set_option linter.unusedSimpArgs false

theorem one_rd (w : World) (x : Nat) (hx : x < 256) : RdB (w.alloc (.cells #[.int .u8 x] 5)) (some ⟨w.heap.size, 0, none⟩) [x] := by
  have := (Own.lit w [x] (by simp; omega) (by simp [maxLen])).rd
  simpa [bv] using this
theorem Own.mono {w : World} {base base' : Nat} {A : Option Addr} {c : Nat} {l : List Nat} (h : Own w base A c l) (hb : base' ≤ base) : Own w base' A c l :=
  ⟨⟨h.row.1, h.row.2.elim Or.inl (fun ⟨g, cap, cur, hv, hg, r⟩ => Or.inr ⟨g, cap, cur, hv, Nat.le_trans hb hg, r⟩)⟩, h.lt⟩

/-- what a call of Put returns -/
def PutRet (w : World) (k s v : Int) (e : Ending) (w' : World) : Prop :=
  Below w.heap.size w w' ∧
  ((Fr.sz k = 0 ∧ e = .returned (.tuple #[.slice none 0 0, .int .i64 30])) ∨
   (Fr.sz k ≠ 0 ∧ ¬ Fr.ok k s v ∧ e = .returned (.tuple #[.slice none 0 0, .int .i64 10])) ∨
   (Fr.sz k ≠ 0 ∧ Fr.ok k s v ∧ ∃ A c, e = .returned (.tuple #[.slice A (Fr.bytes k s v).length c, .int .i64 0]) ∧ Own w' w.heap.size A c (Fr.bytes k s v)))

theorem size_any (k : Int) (w : World) : Calls Try.prog 35 #[.int .i64 k] w fun e w' => e = .returned (.int .i64 (Fr.sz k : Int)) ∧ w = w' := by
  go_enter Try.func35, Try.ntmps35
  rcases Fr.sz_cases k with ⟨e, h⟩ | ⟨e, rfl | rfl | rfl⟩ | ⟨e, rfl | rfl⟩
  · have h1 : (k == 1) = false := by simp; omega
    have h2 : (k == 2) = false := by simp; omega
    have h3 : (k == 5) = false := by simp; omega
    have h4 : (k == 3) = false := by simp; omega
    have h5 : (k == 4) = false := by simp; omega
    have E := Lib.hid e; clear e h
    go_wp2
    go_ret
    exact ⟨by rw [E.out]; rfl, rfl⟩
  all_goals
    clear e
    go_wp2
    go_ret
    exact ⟨rfl, rfl⟩

theorem signed_yes (k : Int) (w : World) (h : k = 3 ∨ k = 4) : Calls Try.prog 38 #[.int .i64 k] w fun e w' => e = .returned (.bool true) ∧ w = w' := by
  go_enter Try.func38, Try.ntmps38
  rcases h with rfl | rfl
  all_goals
    go_wp2
    go_ret
    exact ⟨rfl, rfl⟩
theorem signed_no (k : Int) (w : World) (h : ¬ (k = 3 ∨ k = 4)) : Calls Try.prog 38 #[.int .i64 k] w fun e w' => e = .returned (.bool false) ∧ w = w' := by
  have h4 : (k == 3) = false := by simp; omega
  have h5 : (k == 4) = false := by simp; omega
  clear h
  go_enter Try.func38, Try.ntmps38
  go_wp2
  go_ret
  exact ⟨rfl, rfl⟩

theorem back_s (k v : Int) (w : World) (hk : k = 3 ∨ k = 4) (hv : -9223372036854775808 ≤ v) (hv' : v ≤ 9223372036854775807) :
    Calls Try.prog 36 #[.int .i64 k, .int .i64 v] w fun e w' => e = .returned (.int .i64 ((v + 2147483648) % 4294967296 - 2147483648)) ∧ w = w' := by
  go_enter Try.func36, Try.ntmps36
  go_wp2_with ((go_at_call 38; refine (signed_yes k _ hk).mono ?_; rintro e w' ⟨rfl, rfl⟩))
  go_ret
  exact ⟨ret_int (by show wrap64 (wrap32 v) = _; unfold wrap64 wrap32; omega), rfl⟩
theorem back_u (k v : Int) (w : World) (hk : ¬ (k = 3 ∨ k = 4)) (hv : -9223372036854775808 ≤ v) (hv' : v ≤ 9223372036854775807) :
    Calls Try.prog 36 #[.int .i64 k, .int .i64 v] w fun e w' => e = .returned (.int .i64 (v % 65536)) ∧ w = w' := by
  go_enter Try.func36, Try.ntmps36
  go_wp2_with ((go_at_call 38; refine (signed_no k _ hk).mono ?_; rintro e w' ⟨rfl, rfl⟩))
  go_ret
  exact ⟨ret_int (by show wrap64 (IntKind.u16.wrap v) = _; rw [IntKind.wrap_u16]; unfold wrap64; omega), rfl⟩

set_option maxRecDepth 100000 in
set_option maxHeartbeats 2000000 in
theorem put2 (k s : Nat) (v : Int) (w : World) (hk : k = 1 ∨ k = 2 ∨ k = 5) (hs : s < 256) (hv : 0 ≤ v) (hv' : v ≤ 65535) :
    Calls Try.prog 22 #[.agg #[.int .i64 k, .int .i64 s, .int .i64 v]] w fun e w' => ∃ A c, e = .returned (.tuple #[.slice A (Crc.seal_ ([k, s, 2] ++ Fr.be 2 v)).length c, .int .i64 0]) ∧ Own w' w.heap.size A c (Crc.seal_ ([k, s, 2] ++ Fr.be 2 v)) ∧ Below w.heap.size w w' := by
  have hS : ∀ w, Calls Try.prog 35 #[.int .i64 (k : Int)] w fun e w' => e = .returned (.int .i64 2) ∧ w = w' := fun w => by
    have := size_any (k : Int) w
    rcases hk with rfl | rfl | rfl <;> exact this
  have hB : ∀ w, Calls Try.prog 36 #[.int .i64 (k : Int), .int .i64 v] w fun e w' => e = .returned (.int .i64 v) ∧ w = w' := fun w => by
    have := back_u (k : Int) v w (by omega) (by omega) (by omega)
    rw [Int.emod_eq_of_lt hv (by omega)] at this
    exact this
  have d1 : decide ((s : Int) < 0) = false := by simp
  have d2 : decide ((256 : Int) ≤ (s : Int)) = false := by simp; omega
  have HS := Lib.hid hS; clear hS
  have HB := Lib.hid hB; clear hB
  have hk1 : k < 256 := by omega
  clear hk
  obtain ⟨x0, hx0⟩ : ∃ x : Nat, x = (v / 256 % 256).toNat := ⟨_, rfl⟩
  obtain ⟨x1, hx1⟩ : ∃ x : Nat, x = (v % 256).toNat := ⟨_, rfl⟩
  have hbe : Fr.be 2 v = [x0, x1] := by rw [Fr.be2, hx0, hx1]
  have lx0 : x0 < 256 := by omega
  have lx1 : x1 < 256 := by omega
  have e0 : v / 256 = (x0 : Int) := by omega
  have e1 : IntKind.u8.wrap (v) = (x1 : Int) := by rw [IntKind.wrap_u8']; omega
  have HBE := Lib.hid hbe
  clear hbe hx0 hx1
  have E0 := Lib.hid e0; clear e0
  have E1 := Lib.hid e1; clear e1
  go_enter Try.func22, Try.ntmps22
  go_wp2_with ((go_at_call 35; refine (HS.out _).mono ?_; rintro e w' ⟨rfl, rfl⟩))
  go_quiet ((go_at_call 36; exact quiet_eq (HB.out _)))
  go_wp2_with fail
  have hO := Own.lit ((w.alloc (.cells #[.int .i64 k, .int .i64 s, .int .i64 v] 35)).drewN nq) [k, s, 2] (by simp; omega) (by simp [maxLen])
  have hW1 : Below w.heap.size w ((w.alloc (.cells #[.int .i64 k, .int .i64 s, .int .i64 v] 35)).drewN nq) := bdN (bself _ _) _
  have hz1 : ((w.alloc (.cells #[.int .i64 k, .int .i64 s, .int .i64 v] 35)).drewN nq).heap.size = w.heap.size + 1 := by simp
  have hv1 : ((w.alloc (.cells #[.int .i64 k, .int .i64 s, .int .i64 v] 35)).drewN nq).cell? ⟨w.heap.size, 2, none⟩ = some (.int .i64 v) := by simp
  rw [show w.heap.size + 1 = ((w.alloc (.cells #[.int .i64 k, .int .i64 s, .int .i64 v] 35)).drewN nq).heap.size by simp]
  generalize ((w.alloc (.cells #[.int .i64 k, .int .i64 s, .int .i64 v] 35)).drewN nq) = W1 at hO hW1 hz1 hv1
  have hO' : Own (W1.alloc (.cells #[.int .u8 k, .int .u8 s, .int .u8 2] 5)) W1.heap.size (some ⟨W1.heap.size, 0, none⟩) 3 [k, s, 2] := hO
  have HO0 := Lib.hid hO'
  have HV := Lib.hid hv1
  have HZ := Lib.hid hz1
  clear hO hO' hv1 hz1 HS HB d1 d2
  go_loopg [5, 42] 2 (fun n s5 s42 wr => ∃ (i : Nat) (A : Option Addr) (c : Nat) (r : List Nat), Hid (i + n = 2) ∧ i ≤ 2 ∧ s42 = .int .i64 i ∧ s5 = .slice A r.length c ∧ Hid (Own wr W1.heap.size A c r ∧ r = [k, s, 2] ++ (Fr.be 2 v).take i ∧ Below W1.heap.size W1 wr))
  case atStart => exact ⟨0, _, _, [k, s, 2], by simp [Hid], by omega, rfl, rfl, HO0.out, by simp, bself _ _⟩
  case round =>
    obtain ⟨i, A, c, r, hi, hi2, rfl, rfl, H⟩ := hrel
    have hT := hW1.trans (H.out.2.2.mono hW1.size)
    have hlr : r.length ≤ 100 := by
      rw [H.out.2.1]; simp [Fr.be_len]; omega
    by_cases hlt : i < 2
    · have hvr : wr.cell? ⟨w.heap.size, 2, none⟩ = some (.int .i64 v) := by
        rw [H.out.2.2.cell (p := ⟨w.heap.size, 2, none⟩) (by have := HZ.out; simp; omega)]
        exact HV.out
      rcases (by omega : i = 0 ∨ i = 1) with rfl | rfl
      · have e0 := E0.out
        go_wp2_with ((at_builtin; refine wpList_append_b rfl (.tmp 45) (.tmp 56) rfl W1.heap.size A c r rfl (H.out.1.below (bself _ _)) (some ⟨wr.heap.size, 0, none⟩) 1 [x0] rfl (by simp) (one_rd wr x0 lx0) (by simp; omega) (by have := H.out.2.2.size; simp; omega) ?_; intro r2 A2 c2 w2 hr2 hown2 hbel2 hgr2 hlen2; have H2 := Lib.hid hown2; have H3 := Lib.hid hbel2; clear hown2 hbel2 hgr2 e0))
        go_roundg (gk - 1)
        case measure => have := hi.out; omega
        case rel =>
          refine ⟨0 + 1, A2, c2, r2, show 0 + 1 + (gk - 1) = 2 by have := hi.out; omega, by omega, by go_num, rfl, H2.out, ?_, ((on_alloc H.out.2.2 _).trans H3.out)⟩
          rw [show r2 = _ from hr2.out, H.out.2.1, HBE.out]
          rfl
      · have e1 := E1.out
        go_wp2_with ((at_builtin; refine wpList_append_b rfl (.tmp 45) (.tmp 56) rfl W1.heap.size A c r rfl (H.out.1.below (bself _ _)) (some ⟨wr.heap.size, 0, none⟩) 1 [x1] rfl (by simp) (one_rd wr x1 lx1) (by simp; omega) (by have := H.out.2.2.size; simp; omega) ?_; intro r2 A2 c2 w2 hr2 hown2 hbel2 hgr2 hlen2; have H2 := Lib.hid hown2; have H3 := Lib.hid hbel2; clear hown2 hbel2 hgr2 e1))
        go_roundg (gk - 1)
        case measure => have := hi.out; omega
        case rel =>
          refine ⟨1 + 1, A2, c2, r2, show 1 + 1 + (gk - 1) = 2 by have := hi.out; omega, by omega, by go_num, rfl, H2.out, ?_, ((on_alloc H.out.2.2 _).trans H3.out)⟩
          rw [show r2 = _ from hr2.out, H.out.2.1, HBE.out]
          rfl
    · obtain rfl : i = 2 := by omega
      have hr : r = [k, s, 2] ++ Fr.be 2 v := by rw [H.out.2.1, List.take_of_length_le (by rw [Fr.be_len]; omega)]
      have HR := Lib.hid hr; clear hr
      go_wp2_with fail
      refine (seal_any A r c _ H.out.1.rd (by omega)).mono ?_
      rintro e w5 ⟨A5, c5, rfl, ho5, hb5⟩
      have HO5 := Lib.hid ho5; clear ho5
      have HT := Lib.hid (hT.trans (hb5.mono hT.size))
      have hle : w.heap.size ≤ wr.heap.size := hT.size
      clear hb5 hT hW1
      go_wp2_with fail
      go_ret2
      have e := HR.out
      subst e
      exact ⟨A5, c5, rfl, HO5.out.mono hle, HT.out⟩

set_option maxRecDepth 100000 in
set_option maxHeartbeats 2000000 in
theorem put4 (k s : Nat) (v : Int) (w : World) (hk : k = 3 ∨ k = 4) (hs : s < 256) (hv : -2147483648 ≤ v) (hv' : v ≤ 2147483647) :
    Calls Try.prog 22 #[.agg #[.int .i64 k, .int .i64 s, .int .i64 v]] w fun e w' => ∃ A c, e = .returned (.tuple #[.slice A (Crc.seal_ ([k, s, 4] ++ Fr.be 4 v)).length c, .int .i64 0]) ∧ Own w' w.heap.size A c (Crc.seal_ ([k, s, 4] ++ Fr.be 4 v)) ∧ Below w.heap.size w w' := by
  have hS : ∀ w, Calls Try.prog 35 #[.int .i64 (k : Int)] w fun e w' => e = .returned (.int .i64 4) ∧ w = w' := fun w => by
    have := size_any (k : Int) w
    rcases hk with rfl | rfl <;> exact this
  have hB : ∀ w, Calls Try.prog 36 #[.int .i64 (k : Int), .int .i64 v] w fun e w' => e = .returned (.int .i64 v) ∧ w = w' := fun w => by
    have := back_s (k : Int) v w (by omega) (by omega) (by omega)
    rw [show (v + 2147483648) % 4294967296 - 2147483648 = v by omega] at this
    exact this
  have d1 : decide ((s : Int) < 0) = false := by simp
  have d2 : decide ((256 : Int) ≤ (s : Int)) = false := by simp; omega
  have HS := Lib.hid hS; clear hS
  have HB := Lib.hid hB; clear hB
  have hk1 : k < 256 := by omega
  clear hk
  obtain ⟨x0, hx0⟩ : ∃ x : Nat, x = (v / 16777216 % 256).toNat := ⟨_, rfl⟩
  obtain ⟨x1, hx1⟩ : ∃ x : Nat, x = (v / 65536 % 256).toNat := ⟨_, rfl⟩
  obtain ⟨x2, hx2⟩ : ∃ x : Nat, x = (v / 256 % 256).toNat := ⟨_, rfl⟩
  obtain ⟨x3, hx3⟩ : ∃ x : Nat, x = (v % 256).toNat := ⟨_, rfl⟩
  have hbe : Fr.be 4 v = [x0, x1, x2, x3] := by rw [Fr.be4, hx0, hx1, hx2, hx3]
  have lx0 : x0 < 256 := by omega
  have lx1 : x1 < 256 := by omega
  have lx2 : x2 < 256 := by omega
  have lx3 : x3 < 256 := by omega
  have e0 : IntKind.u8.wrap (v / 16777216) = (x0 : Int) := by rw [IntKind.wrap_u8']; omega
  have e1 : IntKind.u8.wrap (v / 65536) = (x1 : Int) := by rw [IntKind.wrap_u8']; omega
  have e2 : IntKind.u8.wrap (v / 256) = (x2 : Int) := by rw [IntKind.wrap_u8']; omega
  have e3 : IntKind.u8.wrap (v) = (x3 : Int) := by rw [IntKind.wrap_u8']; omega
  have HBE := Lib.hid hbe
  clear hbe hx0 hx1 hx2 hx3
  have E0 := Lib.hid e0; clear e0
  have E1 := Lib.hid e1; clear e1
  have E2 := Lib.hid e2; clear e2
  have E3 := Lib.hid e3; clear e3
  go_enter Try.func22, Try.ntmps22
  go_wp2_with ((go_at_call 35; refine (HS.out _).mono ?_; rintro e w' ⟨rfl, rfl⟩))
  go_quiet ((go_at_call 36; exact quiet_eq (HB.out _)))
  go_wp2_with fail
  have hO := Own.lit ((w.alloc (.cells #[.int .i64 k, .int .i64 s, .int .i64 v] 35)).drewN nq) [k, s, 4] (by simp; omega) (by simp [maxLen])
  have hW1 : Below w.heap.size w ((w.alloc (.cells #[.int .i64 k, .int .i64 s, .int .i64 v] 35)).drewN nq) := bdN (bself _ _) _
  have hz1 : ((w.alloc (.cells #[.int .i64 k, .int .i64 s, .int .i64 v] 35)).drewN nq).heap.size = w.heap.size + 1 := by simp
  have hv1 : ((w.alloc (.cells #[.int .i64 k, .int .i64 s, .int .i64 v] 35)).drewN nq).cell? ⟨w.heap.size, 2, none⟩ = some (.int .i64 v) := by simp
  rw [show w.heap.size + 1 = ((w.alloc (.cells #[.int .i64 k, .int .i64 s, .int .i64 v] 35)).drewN nq).heap.size by simp]
  generalize ((w.alloc (.cells #[.int .i64 k, .int .i64 s, .int .i64 v] 35)).drewN nq) = W1 at hO hW1 hz1 hv1
  have hO' : Own (W1.alloc (.cells #[.int .u8 k, .int .u8 s, .int .u8 4] 5)) W1.heap.size (some ⟨W1.heap.size, 0, none⟩) 3 [k, s, 4] := hO
  have HO0 := Lib.hid hO'
  have HV := Lib.hid hv1
  have HZ := Lib.hid hz1
  clear hO hO' hv1 hz1 HS HB d1 d2
  go_loopg [5, 42] 4 (fun n s5 s42 wr => ∃ (i : Nat) (A : Option Addr) (c : Nat) (r : List Nat), Hid (i + n = 4) ∧ i ≤ 4 ∧ s42 = .int .i64 i ∧ s5 = .slice A r.length c ∧ Hid (Own wr W1.heap.size A c r ∧ r = [k, s, 4] ++ (Fr.be 4 v).take i ∧ Below W1.heap.size W1 wr))
  case atStart => exact ⟨0, _, _, [k, s, 4], by simp [Hid], by omega, rfl, rfl, HO0.out, by simp, bself _ _⟩
  case round =>
    obtain ⟨i, A, c, r, hi, hi2, rfl, rfl, H⟩ := hrel
    have hT := hW1.trans (H.out.2.2.mono hW1.size)
    have hlr : r.length ≤ 100 := by
      rw [H.out.2.1]; simp [Fr.be_len]; omega
    by_cases hlt : i < 4
    · have hvr : wr.cell? ⟨w.heap.size, 2, none⟩ = some (.int .i64 v) := by
        rw [H.out.2.2.cell (p := ⟨w.heap.size, 2, none⟩) (by have := HZ.out; simp; omega)]
        exact HV.out
      rcases (by omega : i = 0 ∨ i = 1 ∨ i = 2 ∨ i = 3) with rfl | rfl | rfl | rfl
      · have e0 := E0.out
        go_wp2_with ((at_builtin; refine wpList_append_b rfl (.tmp 45) (.tmp 56) rfl W1.heap.size A c r rfl (H.out.1.below (bself _ _)) (some ⟨wr.heap.size, 0, none⟩) 1 [x0] rfl (by simp) (one_rd wr x0 lx0) (by simp; omega) (by have := H.out.2.2.size; simp; omega) ?_; intro r2 A2 c2 w2 hr2 hown2 hbel2 hgr2 hlen2; have H2 := Lib.hid hown2; have H3 := Lib.hid hbel2; clear hown2 hbel2 hgr2 e0))
        go_roundg (gk - 1)
        case measure => have := hi.out; omega
        case rel =>
          refine ⟨0 + 1, A2, c2, r2, show 0 + 1 + (gk - 1) = 4 by have := hi.out; omega, by omega, by go_num, rfl, H2.out, ?_, ((on_alloc H.out.2.2 _).trans H3.out)⟩
          rw [show r2 = _ from hr2.out, H.out.2.1, HBE.out]
          rfl
      · have e1 := E1.out
        go_wp2_with ((at_builtin; refine wpList_append_b rfl (.tmp 45) (.tmp 56) rfl W1.heap.size A c r rfl (H.out.1.below (bself _ _)) (some ⟨wr.heap.size, 0, none⟩) 1 [x1] rfl (by simp) (one_rd wr x1 lx1) (by simp; omega) (by have := H.out.2.2.size; simp; omega) ?_; intro r2 A2 c2 w2 hr2 hown2 hbel2 hgr2 hlen2; have H2 := Lib.hid hown2; have H3 := Lib.hid hbel2; clear hown2 hbel2 hgr2 e1))
        go_roundg (gk - 1)
        case measure => have := hi.out; omega
        case rel =>
          refine ⟨1 + 1, A2, c2, r2, show 1 + 1 + (gk - 1) = 4 by have := hi.out; omega, by omega, by go_num, rfl, H2.out, ?_, ((on_alloc H.out.2.2 _).trans H3.out)⟩
          rw [show r2 = _ from hr2.out, H.out.2.1, HBE.out]
          rfl
      · have e2 := E2.out
        go_wp2_with ((at_builtin; refine wpList_append_b rfl (.tmp 45) (.tmp 56) rfl W1.heap.size A c r rfl (H.out.1.below (bself _ _)) (some ⟨wr.heap.size, 0, none⟩) 1 [x2] rfl (by simp) (one_rd wr x2 lx2) (by simp; omega) (by have := H.out.2.2.size; simp; omega) ?_; intro r2 A2 c2 w2 hr2 hown2 hbel2 hgr2 hlen2; have H2 := Lib.hid hown2; have H3 := Lib.hid hbel2; clear hown2 hbel2 hgr2 e2))
        go_roundg (gk - 1)
        case measure => have := hi.out; omega
        case rel =>
          refine ⟨2 + 1, A2, c2, r2, show 2 + 1 + (gk - 1) = 4 by have := hi.out; omega, by omega, by go_num, rfl, H2.out, ?_, ((on_alloc H.out.2.2 _).trans H3.out)⟩
          rw [show r2 = _ from hr2.out, H.out.2.1, HBE.out]
          rfl
      · have e3 := E3.out
        go_wp2_with ((at_builtin; refine wpList_append_b rfl (.tmp 45) (.tmp 56) rfl W1.heap.size A c r rfl (H.out.1.below (bself _ _)) (some ⟨wr.heap.size, 0, none⟩) 1 [x3] rfl (by simp) (one_rd wr x3 lx3) (by simp; omega) (by have := H.out.2.2.size; simp; omega) ?_; intro r2 A2 c2 w2 hr2 hown2 hbel2 hgr2 hlen2; have H2 := Lib.hid hown2; have H3 := Lib.hid hbel2; clear hown2 hbel2 hgr2 e3))
        go_roundg (gk - 1)
        case measure => have := hi.out; omega
        case rel =>
          refine ⟨3 + 1, A2, c2, r2, show 3 + 1 + (gk - 1) = 4 by have := hi.out; omega, by omega, by go_num, rfl, H2.out, ?_, ((on_alloc H.out.2.2 _).trans H3.out)⟩
          rw [show r2 = _ from hr2.out, H.out.2.1, HBE.out]
          rfl
    · obtain rfl : i = 4 := by omega
      have hr : r = [k, s, 4] ++ Fr.be 4 v := by rw [H.out.2.1, List.take_of_length_le (by rw [Fr.be_len]; omega)]
      have HR := Lib.hid hr; clear hr
      go_wp2_with fail
      refine (seal_any A r c _ H.out.1.rd (by omega)).mono ?_
      rintro e w5 ⟨A5, c5, rfl, ho5, hb5⟩
      have HO5 := Lib.hid ho5; clear ho5
      have HT := Lib.hid (hT.trans (hb5.mono hT.size))
      have hle : w.heap.size ≤ wr.heap.size := hT.size
      clear hb5 hT hW1
      go_wp2_with fail
      go_ret2
      have e := HR.out
      subst e
      exact ⟨A5, c5, rfl, HO5.out.mono hle, HT.out⟩

end Go.Proofs.Ytfaabjohlimnlaa
