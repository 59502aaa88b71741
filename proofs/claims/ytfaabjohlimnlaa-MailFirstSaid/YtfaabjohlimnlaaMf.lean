/- The walk of the law MailFirst. No condition. -/
import Derived.Test.YtfaabjohlimnlaaMz
import Derived.Laws.BitsAllLaws
import Derived.Outline
namespace Go.Proofs.Ytfaabjohlimnlaa
open Go.ChangeShapes Go.WideShapes Go.RowKit Go.Sort
set_option linter.unusedVariables false
set_option linter.unusedSimpArgs false

@[go_sem] theorem idx_s5_0 (a b c d e : Value) (w : World) : (Instr.index 69 (.agg #[a, b, c, d, e]) (.int .i64 0)).run Try.prog w = .ok a w := by kernel_rfl
@[go_sem] theorem idx_s5_1 (a b c d e : Value) (w : World) : (Instr.index 69 (.agg #[a, b, c, d, e]) (.int .i64 1)).run Try.prog w = .ok b w := by kernel_rfl
@[go_sem] theorem idx_s5_2 (a b c d e : Value) (w : World) : (Instr.index 69 (.agg #[a, b, c, d, e]) (.int .i64 2)).run Try.prog w = .ok c w := by kernel_rfl
@[go_sem] theorem idx_s5_3 (a b c d e : Value) (w : World) : (Instr.index 69 (.agg #[a, b, c, d, e]) (.int .i64 3)).run Try.prog w = .ok d w := by kernel_rfl
@[go_sem] theorem idx_s5_4 (a b c d e : Value) (w : World) : (Instr.index 69 (.agg #[a, b, c, d, e]) (.int .i64 4)).run Try.prog w = .ok e w := by kernel_rfl

def v5 (a b c d e : Int) : Value := .agg #[.int .i16 a, .int .i16 b, .int .i16 c, .int .i16 d, .int .i16 e]
/-- the five kinds' values -/
def vals (a b c d e : Int) (i : Nat) : Int := if i = 1 then a % 65536 else if i = 2 then b % 65536 else if i = 3 then c else if i = 4 then d else e % 65536

theorem first_great (cycle a b c d e : Int) (A : Option Addr) (rs : List Rw) (cc : Nat) (w : World) (hr : RdR w A rs) (hcl : rs.length ≤ cc) (hcm : cc ≤ maxLen) (hg : greatB rs = true) :
    Calls Try.prog 14 #[.int .i64 cycle, v5 a b c d e, .slice A rs.length cc] w fun e w' => e = .returned (.bool true) ∧ Below w.heap.size w w' := by
  have HR := Lib.hid hr; clear hr
  have HG := Lib.hid (fun w' (hb : Below w.heap.size w w') => great_any A rs cc w' (HR.out.below hb) hcl hcm)
  rw [hg] at HG
  clear hg
  unfold v5
  go_enter Try.func14, Try.ntmps14
  go_wp2_with fail
  refine (mailAnchor_any _).mono ?_
  rintro e w1 ⟨rfl, hb1⟩
  have hb := on_past (bself _ _) hb1
  go_wp2_with fail
  refine (HG.out _ hb).mono ?_
  rintro e w2 ⟨rfl, rfl⟩
  go_wp2_with fail
  go_ret
  exact ⟨rfl, hb⟩

theorem texts_append' (p q : List Rw) : texts (p ++ q) = texts p ++ texts q := List.map_append ..
theorem own_ne {w : World} {base base' : Nat} {A B : Option Addr} {c c' : Nat} {rs : List Rw} {l : List Nat} (h : OwnR w base A c rs) (h' : Own w base' B c' l) :
    (Value.slice B l.length c').ownBlock = none ∨ (Value.slice B l.length c').ownBlock ≠ (Value.slice A rs.length c).ownBlock := by
  rcases h'.row.2 with ⟨hv, _⟩ | ⟨g, cap, cur, hv, _, hg, _⟩
  · left; simp only [Value.slice.injEq] at hv; rw [hv.1]; rfl
  · right
    rcases h.2 with ⟨hv2, _⟩ | ⟨g2, cap2, cur2, hv2, _, hg2, _⟩
    · simp only [Value.slice.injEq] at hv hv2
      rw [hv.1, hv2.1]; simp [Value.ownBlock]
    · simp only [Value.slice.injEq] at hv hv2
      rw [hv.1, hv2.1]
      simp only [Value.ownBlock]
      intro e
      cases e
      rw [hg] at hg2
      cases hg2
/-- the rows so far -/
def Rel5 (W : World) (s : Int) (V : Nat → Int) (k : Nat) (v : Value) (wr : World) : Prop :=
  ∃ A c rs, v = .slice A rs.length c ∧ OwnR wr W.heap.size A c rs ∧ (∀ r ∈ rs, (∃ bs, Own wr bs r.a r.c r.l) ∧ 0 < r.l.length ∧ r.l.length ≤ 9) ∧ texts rs = (Ml.five s V).take k ∧ Below W.heap.size W wr

set_option maxRecDepth 100000 in
set_option maxHeartbeats 2000000 in
theorem first_ok (cycle a b c d e : Int) (A : Option Addr) (rs : List Rw) (cc : Nat) (w : World) (hr : RdR w A rs) (hcl : rs.length ≤ cc) (hcm : cc ≤ maxLen) (hg : greatB rs = false) (hnn : A = none → cc = 0)
    (hcy : -9223372036854775808 ≤ cycle) (hcy' : cycle ≤ 9223372036854775807) (ha : -32768 ≤ a ∧ a ≤ 32767) (hb : -32768 ≤ b ∧ b ≤ 32767) (hc : -32768 ≤ c ∧ c ≤ 32767) (hd : -32768 ≤ d ∧ d ≤ 32767) (he : -32768 ≤ e ∧ e ≤ 32767) :
    Calls Try.prog 14 #[.int .i64 cycle, v5 a b c d e, .slice A rs.length cc] w fun e w' => e = .returned (.bool true) ∧ Below w.heap.size w w' := by
  obtain ⟨hls, hn⟩ := great_no hg
  have HR := Lib.hid hr; clear hr
  have HG := Lib.hid (fun w' (hb : Below w.heap.size w w') => great_any A rs cc w' (HR.out.below hb) hcl hcm)
  rw [hg] at HG
  have HSq := Lib.hid (fun w => seq_any cycle w hcy hcy')
  clear hg
  obtain ⟨s, Hs⟩ : ∃ s, Hid (cycle % 256 = s) := ⟨_, Lib.hid rfl⟩
  rw [Hs.out] at HSq
  have hs0 : 0 ≤ s := by have := Hs.out; omega
  have hs1 : s ≤ 255 := by have := Hs.out; omega
  have HP := Lib.hid (fun (k v : Int) (w : World) (h0 : Fr.sz k ≠ 0) (h1 : Fr.ok k s v) (hv : -9223372036854775808 ≤ v) (hv' : v ≤ 9223372036854775807) => put_good k s v w h0 h1 hv hv')
  unfold v5
  go_enter Try.func14, Try.ntmps14
  go_wp2_with fail
  refine (mailAnchor_any _).mono ?_
  rintro e' w1 ⟨rfl, hb1⟩
  have HB := Lib.hid (on_past (bself _ _) hb1)
  obtain ⟨hc1, _, _⟩ := bcell hb1
  have q : ∀ i v, (#[Value.int .i16 a, .int .i16 b, .int .i16 c, .int .i16 d, .int .i16 e])[i]? = some v → w1.cell? ⟨w.heap.size, i, none⟩ = some v := fun i v h => (hc1 _ _ (by simp)).trans (by rw [World.cell?_alloc_new]; exact h)
  have q0 := q 0 _ rfl
  have q1 := q 1 _ rfl
  have q2 := q 2 _ rfl
  have q3 := q 3 _ rfl
  have q4 := q 4 _ rfl
  have hz1 : w.heap.size < w1.heap.size := by have := hb1.size; simp at this; omega
  have HBox := Lib.hid q
  clear q hc1 hb1
  go_wp2_with fail
  refine (HG.out _ HB.out).mono ?_
  rintro e' w2 ⟨rfl, rfl⟩
  go_wp2_with fail
  have HZ1 := Lib.hid hz1
  clear q0 q1 q2 q3 q4 hz1
  go_loopw [24, 7, 8, 9, 10, 11, 12] (fun s24 s7 s8 s9 s10 s11 s12 wr => ∃ k : Nat, k ≤ 5 ∧ s24 = .int .i64 k ∧ Rel5 w1 s (vals a b c d e) k s7 wr) (fun s24 _ _ _ _ _ _ _ => 5 - (intOf s24).toNat)
  case atStart => exact ⟨0, by omega, rfl, none, 0, [], rfl, OwnR.nil _ _, by simp, rfl, Below.refl _ _⟩
  case round =>
    obtain ⟨k, hk, rfl, hrel⟩ := hrel
    by_cases hlt : k < 5
    · obtain ⟨A1, c1, r1, rfl, ho, hok, ht, hb⟩ := hrel
      have HO := Lib.hid ho
      have HOk := Lib.hid hok
      have HT := Lib.hid ht
      have HBr := Lib.hid hb
      have hrl : r1.length ≤ 5 := by
        have := congrArg List.length ht
        rw [texts_len, List.length_take] at this
        have : (Ml.five s (vals a b c d e)).length = 5 := rfl
        omega
      clear ho hok ht hb
      have hk' : k = 0 ∨ k = 1 ∨ k = 2 ∨ k = 3 ∨ k = 4 := by omega
      rcases hk' with rfl | rfl | rfl | rfl | rfl
      · have ha' := ha
        obtain ⟨lo, hi⟩ := ha'
        have hwv : wrap64 (IntKind.u16.wrap a) = a % 65536 := by rw [IntKind.wrap_u16]; unfold wrap64; omega
        have Hwv := Lib.hid hwv; clear hwv
        go_wp2_with ((go_at_call 30; refine (HSq.out _).mono ?_; rintro e w' ⟨rfl, rfl⟩))
        rw [Hwv.out]
        refine (HP.out 1 (a % 65536) _ (by decide) (ok_any _ _ _ ⟨hs0, hs1⟩ (fun _ => by omega) (fun h => absurd h (by decide))) (by omega) (by omega)).mono ?_
        rintro e' w4 ⟨A4, c4, rfl, ho4, hb4⟩
        have hl4 : (Fr.bytes 1 s (a % 65536)).length ≤ 9 ∧ 0 < (Fr.bytes 1 s (a % 65536)).length := (by rw [Fr.bytes_len]; have h5 : Fr.sz 1 ≤ 4 := (by decide); omega)
        have HRW := Lib.hid ho4
        have HL4 := Lib.hid hl4
        have HB4 := Lib.hid (on_past (bself wr (.cells #[.int .i64 1, .int .i64 s, .int .i64 (a % 65536)] 35)) hb4)
        clear ho4 hb4 hl4
        have HT1 := Lib.hid (show (Ml.five s (vals a b c d e)).take 1 = (Ml.five s (vals a b c d e)).take 0 ++ [Fr.bytes 1 s (a % 65536)] from rfl)
        generalize Fr.bytes 1 s (a % 65536) = bl at HRW HL4 HT1 ⊢
        go_wp2_with ((at_builtin
                      refine wpList_append_r rfl (.tmp 54) (.tmp 56) rfl w1.heap.size A1 c1 r1 rfl ((HO.out.below HB4.out).below (bself _ _)) (some ⟨w4.heap.size, 0, none⟩) 1 [⟨A4, bl, c4⟩] rfl (fun h => by cases h) (Cel.one w4 ⟨A4, bl, c4⟩ _) (by simp; omega) (by have := HBr.out.size; have := HB4.out.size; simp; omega) ?_
                      intro r5 A5 c5 w5 hr5 ho5 hb5 hg5 hl5))
        go_roundw
        case rel =>
          have hOld := (HO.out.below HB4.out).below (bself w4 (.cells #[.slice A4 bl.length c4] 22))
          refine ⟨1, by omega, rfl, A5, c5, r5, rfl, ho5, ?_, ?_, ?_⟩
          · intro r hr
            rw [show r5 = _ from hr5.out] at hr
            simp only [List.mem_append, List.mem_singleton] at hr
            rcases hr with hr | rfl
            · obtain ⟨⟨bs, hown⟩, hlen⟩ := HOk.out r hr
              have h1 := (hown.below HB4.out).below (bself w4 (.cells #[.slice A4 bl.length c4] 22))
              exact ⟨⟨bs, h1.kept hg5 (own_ne hOld h1)⟩, hlen⟩
            · have h1 := HRW.out.below (bself w4 (.cells #[.slice A4 bl.length c4] 22))
              exact ⟨⟨_, h1.kept hg5 (own_ne hOld h1)⟩, HL4.out.2, HL4.out.1⟩
          · rw [show r5 = _ from hr5.out, texts_append', HT.out, HT1.out]; rfl
          · exact (HBr.out.trans ((on_alloc HB4.out _).mono HBr.out.size)).trans hb5
        case measure => simp [intOf]
      · have hb' := hb
        obtain ⟨lo, hi⟩ := hb'
        have hwv : wrap64 (IntKind.u16.wrap b) = b % 65536 := by rw [IntKind.wrap_u16]; unfold wrap64; omega
        have Hwv := Lib.hid hwv; clear hwv
        go_wp2_with ((go_at_call 30; refine (HSq.out _).mono ?_; rintro e w' ⟨rfl, rfl⟩))
        rw [Hwv.out]
        refine (HP.out 2 (b % 65536) _ (by decide) (ok_any _ _ _ ⟨hs0, hs1⟩ (fun _ => by omega) (fun h => absurd h (by decide))) (by omega) (by omega)).mono ?_
        rintro e' w4 ⟨A4, c4, rfl, ho4, hb4⟩
        have hl4 : (Fr.bytes 2 s (b % 65536)).length ≤ 9 ∧ 0 < (Fr.bytes 2 s (b % 65536)).length := (by rw [Fr.bytes_len]; have h5 : Fr.sz 2 ≤ 4 := (by decide); omega)
        have HRW := Lib.hid ho4
        have HL4 := Lib.hid hl4
        have HB4 := Lib.hid (on_past (bself wr (.cells #[.int .i64 2, .int .i64 s, .int .i64 (b % 65536)] 35)) hb4)
        clear ho4 hb4 hl4
        have HT1 := Lib.hid (show (Ml.five s (vals a b c d e)).take 2 = (Ml.five s (vals a b c d e)).take 1 ++ [Fr.bytes 2 s (b % 65536)] from rfl)
        generalize Fr.bytes 2 s (b % 65536) = bl at HRW HL4 HT1 ⊢
        go_wp2_with ((at_builtin
                      refine wpList_append_r rfl (.tmp 54) (.tmp 56) rfl w1.heap.size A1 c1 r1 rfl ((HO.out.below HB4.out).below (bself _ _)) (some ⟨w4.heap.size, 0, none⟩) 1 [⟨A4, bl, c4⟩] rfl (fun h => by cases h) (Cel.one w4 ⟨A4, bl, c4⟩ _) (by simp; omega) (by have := HBr.out.size; have := HB4.out.size; simp; omega) ?_
                      intro r5 A5 c5 w5 hr5 ho5 hb5 hg5 hl5))
        go_roundw
        case rel =>
          have hOld := (HO.out.below HB4.out).below (bself w4 (.cells #[.slice A4 bl.length c4] 22))
          refine ⟨2, by omega, rfl, A5, c5, r5, rfl, ho5, ?_, ?_, ?_⟩
          · intro r hr
            rw [show r5 = _ from hr5.out] at hr
            simp only [List.mem_append, List.mem_singleton] at hr
            rcases hr with hr | rfl
            · obtain ⟨⟨bs, hown⟩, hlen⟩ := HOk.out r hr
              have h1 := (hown.below HB4.out).below (bself w4 (.cells #[.slice A4 bl.length c4] 22))
              exact ⟨⟨bs, h1.kept hg5 (own_ne hOld h1)⟩, hlen⟩
            · have h1 := HRW.out.below (bself w4 (.cells #[.slice A4 bl.length c4] 22))
              exact ⟨⟨_, h1.kept hg5 (own_ne hOld h1)⟩, HL4.out.2, HL4.out.1⟩
          · rw [show r5 = _ from hr5.out, texts_append', HT.out, HT1.out]; rfl
          · exact (HBr.out.trans ((on_alloc HB4.out _).mono HBr.out.size)).trans hb5
        case measure => simp [intOf]
      · have hc' := hc
        obtain ⟨lo, hi⟩ := hc'
        go_wp2_with ((go_at_call 30; refine (HSq.out _).mono ?_; rintro e w' ⟨rfl, rfl⟩))
        refine (HP.out 3 (c) _ (by decide) (ok_any _ _ _ ⟨hs0, hs1⟩ (fun h => absurd h (by decide)) (fun _ => by omega)) (by omega) (by omega)).mono ?_
        rintro e' w4 ⟨A4, c4, rfl, ho4, hb4⟩
        have hl4 : (Fr.bytes 3 s (c)).length ≤ 9 ∧ 0 < (Fr.bytes 3 s (c)).length := (by rw [Fr.bytes_len]; have h5 : Fr.sz 3 ≤ 4 := (by decide); omega)
        have HRW := Lib.hid ho4
        have HL4 := Lib.hid hl4
        have HB4 := Lib.hid (on_past (bself wr (.cells #[.int .i64 3, .int .i64 s, .int .i64 (c)] 35)) hb4)
        clear ho4 hb4 hl4
        have HT1 := Lib.hid (show (Ml.five s (vals a b c d e)).take 3 = (Ml.five s (vals a b c d e)).take 2 ++ [Fr.bytes 3 s (c)] from rfl)
        generalize Fr.bytes 3 s (c) = bl at HRW HL4 HT1 ⊢
        go_wp2_with ((at_builtin
                      refine wpList_append_r rfl (.tmp 54) (.tmp 56) rfl w1.heap.size A1 c1 r1 rfl ((HO.out.below HB4.out).below (bself _ _)) (some ⟨w4.heap.size, 0, none⟩) 1 [⟨A4, bl, c4⟩] rfl (fun h => by cases h) (Cel.one w4 ⟨A4, bl, c4⟩ _) (by simp; omega) (by have := HBr.out.size; have := HB4.out.size; simp; omega) ?_
                      intro r5 A5 c5 w5 hr5 ho5 hb5 hg5 hl5))
        go_roundw
        case rel =>
          have hOld := (HO.out.below HB4.out).below (bself w4 (.cells #[.slice A4 bl.length c4] 22))
          refine ⟨3, by omega, rfl, A5, c5, r5, rfl, ho5, ?_, ?_, ?_⟩
          · intro r hr
            rw [show r5 = _ from hr5.out] at hr
            simp only [List.mem_append, List.mem_singleton] at hr
            rcases hr with hr | rfl
            · obtain ⟨⟨bs, hown⟩, hlen⟩ := HOk.out r hr
              have h1 := (hown.below HB4.out).below (bself w4 (.cells #[.slice A4 bl.length c4] 22))
              exact ⟨⟨bs, h1.kept hg5 (own_ne hOld h1)⟩, hlen⟩
            · have h1 := HRW.out.below (bself w4 (.cells #[.slice A4 bl.length c4] 22))
              exact ⟨⟨_, h1.kept hg5 (own_ne hOld h1)⟩, HL4.out.2, HL4.out.1⟩
          · rw [show r5 = _ from hr5.out, texts_append', HT.out, HT1.out]; rfl
          · exact (HBr.out.trans ((on_alloc HB4.out _).mono HBr.out.size)).trans hb5
        case measure => simp [intOf]
      · have hd' := hd
        obtain ⟨lo, hi⟩ := hd'
        go_wp2_with ((go_at_call 30; refine (HSq.out _).mono ?_; rintro e w' ⟨rfl, rfl⟩))
        refine (HP.out 4 (d) _ (by decide) (ok_any _ _ _ ⟨hs0, hs1⟩ (fun h => absurd h (by decide)) (fun _ => by omega)) (by omega) (by omega)).mono ?_
        rintro e' w4 ⟨A4, c4, rfl, ho4, hb4⟩
        have hl4 : (Fr.bytes 4 s (d)).length ≤ 9 ∧ 0 < (Fr.bytes 4 s (d)).length := (by rw [Fr.bytes_len]; have h5 : Fr.sz 4 ≤ 4 := (by decide); omega)
        have HRW := Lib.hid ho4
        have HL4 := Lib.hid hl4
        have HB4 := Lib.hid (on_past (bself wr (.cells #[.int .i64 4, .int .i64 s, .int .i64 (d)] 35)) hb4)
        clear ho4 hb4 hl4
        have HT1 := Lib.hid (show (Ml.five s (vals a b c d e)).take 4 = (Ml.five s (vals a b c d e)).take 3 ++ [Fr.bytes 4 s (d)] from rfl)
        generalize Fr.bytes 4 s (d) = bl at HRW HL4 HT1 ⊢
        go_wp2_with ((at_builtin
                      refine wpList_append_r rfl (.tmp 54) (.tmp 56) rfl w1.heap.size A1 c1 r1 rfl ((HO.out.below HB4.out).below (bself _ _)) (some ⟨w4.heap.size, 0, none⟩) 1 [⟨A4, bl, c4⟩] rfl (fun h => by cases h) (Cel.one w4 ⟨A4, bl, c4⟩ _) (by simp; omega) (by have := HBr.out.size; have := HB4.out.size; simp; omega) ?_
                      intro r5 A5 c5 w5 hr5 ho5 hb5 hg5 hl5))
        go_roundw
        case rel =>
          have hOld := (HO.out.below HB4.out).below (bself w4 (.cells #[.slice A4 bl.length c4] 22))
          refine ⟨4, by omega, rfl, A5, c5, r5, rfl, ho5, ?_, ?_, ?_⟩
          · intro r hr
            rw [show r5 = _ from hr5.out] at hr
            simp only [List.mem_append, List.mem_singleton] at hr
            rcases hr with hr | rfl
            · obtain ⟨⟨bs, hown⟩, hlen⟩ := HOk.out r hr
              have h1 := (hown.below HB4.out).below (bself w4 (.cells #[.slice A4 bl.length c4] 22))
              exact ⟨⟨bs, h1.kept hg5 (own_ne hOld h1)⟩, hlen⟩
            · have h1 := HRW.out.below (bself w4 (.cells #[.slice A4 bl.length c4] 22))
              exact ⟨⟨_, h1.kept hg5 (own_ne hOld h1)⟩, HL4.out.2, HL4.out.1⟩
          · rw [show r5 = _ from hr5.out, texts_append', HT.out, HT1.out]; rfl
          · exact (HBr.out.trans ((on_alloc HB4.out _).mono HBr.out.size)).trans hb5
        case measure => simp [intOf]
      · have he' := he
        obtain ⟨lo, hi⟩ := he'
        have hwv : wrap64 (IntKind.u16.wrap e) = e % 65536 := by rw [IntKind.wrap_u16]; unfold wrap64; omega
        have Hwv := Lib.hid hwv; clear hwv
        go_wp2_with ((go_at_call 30; refine (HSq.out _).mono ?_; rintro e w' ⟨rfl, rfl⟩))
        rw [Hwv.out]
        refine (HP.out 5 (e % 65536) _ (by decide) (ok_any _ _ _ ⟨hs0, hs1⟩ (fun _ => by omega) (fun h => absurd h (by decide))) (by omega) (by omega)).mono ?_
        rintro e' w4 ⟨A4, c4, rfl, ho4, hb4⟩
        have hl4 : (Fr.bytes 5 s (e % 65536)).length ≤ 9 ∧ 0 < (Fr.bytes 5 s (e % 65536)).length := (by rw [Fr.bytes_len]; have h5 : Fr.sz 5 ≤ 4 := (by decide); omega)
        have HRW := Lib.hid ho4
        have HL4 := Lib.hid hl4
        have HB4 := Lib.hid (on_past (bself wr (.cells #[.int .i64 5, .int .i64 s, .int .i64 (e % 65536)] 35)) hb4)
        clear ho4 hb4 hl4
        have HT1 := Lib.hid (show (Ml.five s (vals a b c d e)).take 5 = (Ml.five s (vals a b c d e)).take 4 ++ [Fr.bytes 5 s (e % 65536)] from rfl)
        generalize Fr.bytes 5 s (e % 65536) = bl at HRW HL4 HT1 ⊢
        go_wp2_with ((at_builtin
                      refine wpList_append_r rfl (.tmp 54) (.tmp 56) rfl w1.heap.size A1 c1 r1 rfl ((HO.out.below HB4.out).below (bself _ _)) (some ⟨w4.heap.size, 0, none⟩) 1 [⟨A4, bl, c4⟩] rfl (fun h => by cases h) (Cel.one w4 ⟨A4, bl, c4⟩ _) (by simp; omega) (by have := HBr.out.size; have := HB4.out.size; simp; omega) ?_
                      intro r5 A5 c5 w5 hr5 ho5 hb5 hg5 hl5))
        go_roundw
        case rel =>
          have hOld := (HO.out.below HB4.out).below (bself w4 (.cells #[.slice A4 bl.length c4] 22))
          refine ⟨5, by omega, rfl, A5, c5, r5, rfl, ho5, ?_, ?_, ?_⟩
          · intro r hr
            rw [show r5 = _ from hr5.out] at hr
            simp only [List.mem_append, List.mem_singleton] at hr
            rcases hr with hr | rfl
            · obtain ⟨⟨bs, hown⟩, hlen⟩ := HOk.out r hr
              have h1 := (hown.below HB4.out).below (bself w4 (.cells #[.slice A4 bl.length c4] 22))
              exact ⟨⟨bs, h1.kept hg5 (own_ne hOld h1)⟩, hlen⟩
            · have h1 := HRW.out.below (bself w4 (.cells #[.slice A4 bl.length c4] 22))
              exact ⟨⟨_, h1.kept hg5 (own_ne hOld h1)⟩, HL4.out.2, HL4.out.1⟩
          · rw [show r5 = _ from hr5.out, texts_append', HT.out, HT1.out]; rfl
          · exact (HBr.out.trans ((on_alloc HB4.out _).mono HBr.out.size)).trans hb5
        case measure => simp [intOf]
    · obtain ⟨A1, c1, r1, rfl, ho, hok, ht, hb⟩ := hrel
      obtain rfl : k = 5 := by omega
      have HO := Lib.hid ho
      have HOk := Lib.hid hok
      have HBr := Lib.hid hb
      have ht5 : texts r1 = Ml.five s (vals a b c d e) := by rw [ht]; rfl
      have HBw := Lib.hid (HB.out.trans (hb.mono HB.out.size))
      have hrl : r1.length = 5 := by have := congrArg List.length ht5; rw [texts_len] at this; exact this
      have HR1 := Lib.hid (ho.rd (fun r hr => by obtain ⟨⟨bs, hown⟩, h0, _⟩ := hok r hr; exact hown.rw_ h0))
      have hf := Ml.sort_first cycle (vals a b c d e) (texts rs) (texts_lt HR.out) (by rw [Hs.out]; exact ok_any _ _ _ ⟨hs0, hs1⟩ (fun _ => by show 0 ≤ a % 65536 ∧ a % 65536 ≤ 65535; omega) (fun h => absurd h (by decide)))
        (by rw [Hs.out]; exact ok_any _ _ _ ⟨hs0, hs1⟩ (fun _ => by show 0 ≤ b % 65536 ∧ b % 65536 ≤ 65535; omega) (fun h => absurd h (by decide)))
        (by rw [Hs.out]; exact ok_any _ _ _ ⟨hs0, hs1⟩ (fun h => absurd h (by decide)) (fun _ => by show -2147483648 ≤ c ∧ c ≤ 2147483647; omega))
        (by rw [Hs.out]; exact ok_any _ _ _ ⟨hs0, hs1⟩ (fun h => absurd h (by decide)) (fun _ => by show -2147483648 ≤ d ∧ d ≤ 2147483647; omega))
        (by rw [Hs.out]; exact ok_any _ _ _ ⟨hs0, hs1⟩ (fun _ => by show 0 ≤ e % 65536 ∧ e % 65536 ≤ 65535; omega) (fun h => absurd h (by decide)))
      rw [Hs.out, ← ht5, ← texts_append'] at hf
      obtain ⟨m1, HM1⟩ : ∃ m1, Hid (Ml.sort cycle (texts r1) = m1) := ⟨_, Lib.hid rfl⟩
      obtain ⟨m2, HM2⟩ : ∃ m2, Hid (Ml.sort cycle (texts (r1 ++ rs)) = m2) := ⟨_, Lib.hid rfl⟩
      rw [HM1.out, HM2.out] at hf
      obtain ⟨hf1, hf2, hf3⟩ := hf
      have HF := Lib.hid (show m2.has = m1.has ∧ m2.val = m1.val ∧ (m1.bad : Int) = 0 ∧ (m1.stale : Int) = 0 ∧ (m1.twice : Int) = 0 ∧ (m1.beyond : Int) = 0 from ⟨by rw [hf2, hf1], by rw [hf3, hf1], by rw [hf1]; rfl, by rw [hf1]; rfl, by rw [hf1]; rfl, by rw [hf1]; rfl⟩)
      have HV := Lib.hid (show m2.has 1 = true ∧ m2.has 2 = true ∧ m2.has 3 = true ∧ m2.has 4 = true ∧ m2.has 5 = true ∧ m2.val 1 = a % 65536 ∧ m2.val 2 = b % 65536 ∧ m2.val 3 = c ∧ m2.val 4 = d ∧ m2.val 5 = e % 65536 by rw [hf2, hf3]; exact ⟨rfl, rfl, rfl, rfl, rfl, rfl, rfl, rfl, rfl, rfl⟩)
      have hcap1 := ho.cap
      have HS1 := Lib.hid (sort_any cycle A1 r1 c1 wr HR1.out hcap1.1 hcap1.2 (by omega) (fun r hr => by have := (hok r hr).2.2; omega))
      rw [HM1.out] at HS1
      have hrl5 : r1.length ≤ 5 := by omega
      clear hf1 hf2 hf3 ho hok hb ht ht5 hcap1 hrl
      go_wp2_with fail
      refine HS1.out.mono ?_
      rintro e' w5 ⟨rfl, hb5⟩
      have HB5 := Lib.hid (HBw.out.trans (hb5.mono (Nat.le_trans HB.out.size HBr.out.size)))
      have HR5 := Lib.hid (HR1.out.below hb5)
      have HZ5 := Lib.hid (HBr.out.trans (hb5.mono HBr.out.size))
      clear hb5
      go_wp2_with (first
        | (at_builtin
           refine wpList_append_r rfl (.tmp 63) (.tmp 64) rfl w5.heap.size (some ⟨w5.heap.size, 0, none⟩) 0 [] rfl (OwnR.new w5 _ (Nat.le_refl _)) A1 c1 r1 rfl HO.out.noneNil (HR5.out.below (bself _ _)).cel (by simp; omega) (by simp) ?_
           intro r6 A6 c6 w6 hr6 ho6 hb6 hg6 hl6
           have hT6 := (bself w5 (.cells #[] 22)).trans hb6)
        | (at_builtin
           refine wpList_append_r rfl (.tmp 65) (.tmp 66) rfl w5.heap.size A6 c6 r6 rfl ho6 A cc rs rfl hnn ((HR.out.below HB5.out).below hT6).cel (by rw [show r6 = _ from hr6.out]; simp; omega) hT6.size ?_
           intro r7 A7 c7 w7 hr7 ho7 hb7 hg7 hl7
           have hT7 := hT6.trans hb7))
      have e7 : r7 = r1 ++ rs := by rw [show r7 = _ from hr7.out, show r6 = _ from hr6.out]; rfl
      have HB7 := Lib.hid (HB5.out.trans (hT7.mono HB5.out.size))
      have hR7 : RdR w7 A7 r7 := ho7.rd (by
        intro r hr
        rw [e7, List.mem_append] at hr
        rcases hr with hr | hr
        · exact (HR5.out.ok r hr).below hT7
        · exact (HR.out.ok r hr).below HB7.out)
      have hcap7 := ho7.cap
      have HS2 := Lib.hid (sort_any cycle A7 r7 c7 w7 hR7 hcap7.1 hcap7.2 hl7 (by
        intro r hr
        rw [e7, List.mem_append] at hr
        rcases hr with hr | hr
        · have := (HOk.out r hr).2.2; omega
        · have := hls r hr; omega))
      replace HS2 : Hid (Calls Try.prog 28 #[.int .i64 cycle, .slice A7 r7.length c7] w7 fun e w'' => e = .returned m2.v ∧ Below w7.heap.size w7 w'') := Lib.hid (by
        have := HS2.out
        rw [show texts r7 = texts (r1 ++ rs) by rw [e7], HM2.out] at this
        exact this)
      have HZ7 := Lib.hid (HZ5.out.trans (hT7.mono HZ5.out.size))
      clear hR7 hcap7 e7 ho6 ho7 hg6 hg7 hb6 hb7 hT6 hT7 hr6 hr7
      refine HS2.out.mono ?_
      rintro e' w8 ⟨rfl, hb8⟩
      have hB8 := Lib.hid (on_past HB7.out hb8)
      have hZ8 := Lib.hid (on_past HZ7.out hb8)
      have hv1 : m1.v = .agg m1.cells.toArray := rfl
      have hv2 : m2.v = .agg m2.cells.toArray := rfl
      rw [hv1, hv2]
      clear hv1 hv2 hb8
      have hth1 := Lib.hid (show ((w8.alloc mail0).alloc mail0).there w8.heap.size 0 16 from there_below (there_alloc_new w8 _ _ 16 (by simp) _ rfl) (by simp) (bself (w8.alloc mail0) mail0))
      have hth2 := Lib.hid (show ((w8.alloc mail0).alloc mail0).there (w8.heap.size + 1) 0 16 from there_alloc_new (w8.alloc mail0) _ _ 16 (by simp) _ (by simp))
      unfold mail0 at hth1 hth2
      go_wp2_with (first
        | (refine wpList_store_mid ?_ 55 (.tmp 13) (.tmp 61) ?_ w8.heap.size 0 m1.cells.toArray ?_ ?_ ?_ mailSize m1.cells_one ?_
           · rfl
           · rfl
           · rfl
           · rfl
           · exact hth1.out)
        | (refine wpList_store_mid ?_ 55 (.tmp 14) (.tmp 68) ?_ (w8.heap.size + 1) 0 m2.cells.toArray ?_ ?_ ?_ mailSize m2.cells_one ?_
           · rfl
           · rfl
           · rfl
           · rfl
           · exact World.there_setCells hth2.out _ _ _
           have HR1 := Lib.hid (World.rangeAt_setCells_apart (World.rangeAt_setCells_same _ w8.heap.size 0 m1.cells hth1.out) (w8.heap.size + 1) 0 m2.cells (by left; omega))
           have HR2 := Lib.hid (World.rangeAt_setCells_same _ (w8.heap.size + 1) 0 m2.cells (World.there_setCells hth2.out w8.heap.size 0 m1.cells))
           have HBf := Lib.hid (below_setCells (w8.heap.size + 1) (by have := hB8.out.size; omega) m2.cells 0 _ (below_setCells w8.heap.size hB8.out.size m1.cells 0 _ (on_alloc (on_alloc hB8.out mail0) mail0)))
           unfold mail0 at HBf
           have hsz : ((((w8.alloc mail0).alloc mail0).setCells w8.heap.size 0 m1.cells).setCells (w8.heap.size + 1) 0 m2.cells).heap.size = w8.heap.size + 2 := by rw [size_setCells, size_setCells]; simp
           unfold mail0 at hsz
           have HZf := Lib.hid (below_setCells (w8.heap.size + 1) (by have := hZ8.out.size; omega) m2.cells 0 _ (below_setCells w8.heap.size hZ8.out.size m1.cells 0 _ (on_alloc (on_alloc hZ8.out mail0) mail0)))
           unfold mail0 at HZf
           generalize World.setCells (World.setCells _ w8.heap.size 0 m1.cells) (w8.heap.size + 1) 0 m2.cells = Wf at HR1 HR2 HBf HZf hsz ⊢
           have hbx : ∀ i v, (#[Value.int .i16 a, Value.int .i16 b, Value.int .i16 c, Value.int .i16 d, Value.int .i16 e])[i]? = some v → Wf.cell? ⟨w.heap.size, i, none⟩ = some v := fun i v hi => (HZf.out.cell (p := ⟨w.heap.size, i, none⟩) HZ1.out).trans (HBox.out i v hi)
           have q0 := hbx 0 _ rfl
           have q1 := hbx 1 _ rfl
           have q2 := hbx 2 _ rfl
           have q3 := hbx 3 _ rfl
           have q4 := hbx 4 _ rfl
           clear hbx hth1 hth2))
      clear q0 q1 q2 q3 q4
      trace "STORED"
      go_loopw [70, 15, 16, 17, 18] (fun s70 s15 s16 s17 s18 wr => ∃ k : Nat, k ≤ 5 ∧ s70 = .int .i64 k ∧ Below Wf.heap.size Wf wr) (fun s70 _ _ _ _ _ => 5 - (intOf s70).toNat)
      case atStart => exact ⟨0, by omega, rfl, Below.refl _ _⟩
      case round =>
        obtain ⟨k, hk, rfl, hbr⟩ := hrel
        have HBk := Lib.hid hbr
        have HRk := Lib.hid (range_below HR2.out (by omega) hbr)
        clear hbr
        by_cases hlt : k < 5
        · have hk' : k = 0 ∨ k = 1 ∨ k = 2 ∨ k = 3 ∨ k = 4 := by omega
          rcases hk' with rfl | rfl | rfl | rfl | rfl
          · have HOf := Lib.hid (fun w => of_in m2.has m2.val m2.bad m2.stale m2.twice m2.beyond 1 w (by omega))
            replace HOf : Hid (∀ w, Calls Try.prog 31 #[.agg m2.cells.toArray, .int .i64 1] w fun e' w' => e' = .returned (.tuple #[.int .i64 (a % 65536), .bool true]) ∧ Below w.heap.size w w') := Lib.hid (by
              have := HOf.out
              rw [HV.out.1, HV.out.2.2.2.2.2.1] at this
              exact this)
            obtain ⟨lo, hi⟩ := ha
            have hcv : (IntKind.i16.wrap (a % 65536) != a) = false := by rw [show IntKind.i16.wrap (a % 65536) = a by simp only [IntKind.wrap, IntKind.bits, IntKind.signed]; simp; omega]; simp
            go_wp2_with (refine wpList_load_mid rfl 55 (.tmp 14) rfl (w8.heap.size + 1) 0 rfl m2.cells _ HRk.out Try.underlying55 rfl mailSize ?_)
            refine (HOf.out _).mono ?_
            rintro e' w9 ⟨rfl, hb9⟩
            have HB9 := Lib.hid (on_past HBk.out hb9)
            clear hb9
            go_wp2_with fail
            go_roundw
            case rel => exact ⟨1, by omega, rfl, HB9.out⟩
            case measure => simp [intOf]
          · have HOf := Lib.hid (fun w => of_in m2.has m2.val m2.bad m2.stale m2.twice m2.beyond 2 w (by omega))
            replace HOf : Hid (∀ w, Calls Try.prog 31 #[.agg m2.cells.toArray, .int .i64 2] w fun e' w' => e' = .returned (.tuple #[.int .i64 (b % 65536), .bool true]) ∧ Below w.heap.size w w') := Lib.hid (by
              have := HOf.out
              rw [HV.out.2.1, HV.out.2.2.2.2.2.2.1] at this
              exact this)
            obtain ⟨lo, hi⟩ := hb
            have hcv : (IntKind.i16.wrap (b % 65536) != b) = false := by rw [show IntKind.i16.wrap (b % 65536) = b by simp only [IntKind.wrap, IntKind.bits, IntKind.signed]; simp; omega]; simp
            go_wp2_with (refine wpList_load_mid rfl 55 (.tmp 14) rfl (w8.heap.size + 1) 0 rfl m2.cells _ HRk.out Try.underlying55 rfl mailSize ?_)
            refine (HOf.out _).mono ?_
            rintro e' w9 ⟨rfl, hb9⟩
            have HB9 := Lib.hid (on_past HBk.out hb9)
            clear hb9
            go_wp2_with fail
            go_roundw
            case rel => exact ⟨2, by omega, rfl, HB9.out⟩
            case measure => simp [intOf]
          · have HOf := Lib.hid (fun w => of_in m2.has m2.val m2.bad m2.stale m2.twice m2.beyond 3 w (by omega))
            replace HOf : Hid (∀ w, Calls Try.prog 31 #[.agg m2.cells.toArray, .int .i64 3] w fun e' w' => e' = .returned (.tuple #[.int .i64 (c), .bool true]) ∧ Below w.heap.size w w') := Lib.hid (by
              have := HOf.out
              rw [HV.out.2.2.1, HV.out.2.2.2.2.2.2.2.1] at this
              exact this)
            obtain ⟨lo, hi⟩ := hc
            have hcv : (IntKind.i16.wrap (c) != c) = false := by rw [show IntKind.i16.wrap (c) = c by simp only [IntKind.wrap, IntKind.bits, IntKind.signed]; simp; omega]; simp
            go_wp2_with (refine wpList_load_mid rfl 55 (.tmp 14) rfl (w8.heap.size + 1) 0 rfl m2.cells _ HRk.out Try.underlying55 rfl mailSize ?_)
            refine (HOf.out _).mono ?_
            rintro e' w9 ⟨rfl, hb9⟩
            have HB9 := Lib.hid (on_past HBk.out hb9)
            clear hb9
            go_wp2_with fail
            go_roundw
            case rel => exact ⟨3, by omega, rfl, HB9.out⟩
            case measure => simp [intOf]
          · have HOf := Lib.hid (fun w => of_in m2.has m2.val m2.bad m2.stale m2.twice m2.beyond 4 w (by omega))
            replace HOf : Hid (∀ w, Calls Try.prog 31 #[.agg m2.cells.toArray, .int .i64 4] w fun e' w' => e' = .returned (.tuple #[.int .i64 (d), .bool true]) ∧ Below w.heap.size w w') := Lib.hid (by
              have := HOf.out
              rw [HV.out.2.2.2.1, HV.out.2.2.2.2.2.2.2.2.1] at this
              exact this)
            obtain ⟨lo, hi⟩ := hd
            have hcv : (IntKind.i16.wrap (d) != d) = false := by rw [show IntKind.i16.wrap (d) = d by simp only [IntKind.wrap, IntKind.bits, IntKind.signed]; simp; omega]; simp
            go_wp2_with (refine wpList_load_mid rfl 55 (.tmp 14) rfl (w8.heap.size + 1) 0 rfl m2.cells _ HRk.out Try.underlying55 rfl mailSize ?_)
            refine (HOf.out _).mono ?_
            rintro e' w9 ⟨rfl, hb9⟩
            have HB9 := Lib.hid (on_past HBk.out hb9)
            clear hb9
            go_wp2_with fail
            go_roundw
            case rel => exact ⟨4, by omega, rfl, HB9.out⟩
            case measure => simp [intOf]
          · have HOf := Lib.hid (fun w => of_in m2.has m2.val m2.bad m2.stale m2.twice m2.beyond 5 w (by omega))
            replace HOf : Hid (∀ w, Calls Try.prog 31 #[.agg m2.cells.toArray, .int .i64 5] w fun e' w' => e' = .returned (.tuple #[.int .i64 (e % 65536), .bool true]) ∧ Below w.heap.size w w') := Lib.hid (by
              have := HOf.out
              rw [HV.out.2.2.2.2.1, HV.out.2.2.2.2.2.2.2.2.2] at this
              exact this)
            obtain ⟨lo, hi⟩ := he
            have hcv : (IntKind.i16.wrap (e % 65536) != e) = false := by rw [show IntKind.i16.wrap (e % 65536) = e by simp only [IntKind.wrap, IntKind.bits, IntKind.signed]; simp; omega]; simp
            go_wp2_with (refine wpList_load_mid rfl 55 (.tmp 14) rfl (w8.heap.size + 1) 0 rfl m2.cells _ HRk.out Try.underlying55 rfl mailSize ?_)
            refine (HOf.out _).mono ?_
            rintro e' w9 ⟨rfl, hb9⟩
            have HB9 := Lib.hid (on_past HBk.out hb9)
            clear hb9
            go_wp2_with fail
            go_roundw
            case rel => exact ⟨5, by omega, rfl, HB9.out⟩
            case measure => simp [intOf]
        · obtain rfl : k = 5 := by omega
          have HRj := Lib.hid (range_below HR1.out (by omega) HBk.out)
          obtain ⟨e1, e2, e3, e4, e5, e6⟩ := HF.out
          have q0 : wr.cell? ⟨w8.heap.size, 0, none⟩ = some (.bool (m1.has 0)) := by have := HRj.out 0 _ rfl; simpa [e1, e2, e3, e4, e5, e6] using this
          have q1 : wr.cell? ⟨w8.heap.size, 1, none⟩ = some (.bool (m1.has 1)) := by have := HRj.out 1 _ rfl; simpa [e1, e2, e3, e4, e5, e6] using this
          have q2 : wr.cell? ⟨w8.heap.size, 2, none⟩ = some (.bool (m1.has 2)) := by have := HRj.out 2 _ rfl; simpa [e1, e2, e3, e4, e5, e6] using this
          have q3 : wr.cell? ⟨w8.heap.size, 3, none⟩ = some (.bool (m1.has 3)) := by have := HRj.out 3 _ rfl; simpa [e1, e2, e3, e4, e5, e6] using this
          have q4 : wr.cell? ⟨w8.heap.size, 4, none⟩ = some (.bool (m1.has 4)) := by have := HRj.out 4 _ rfl; simpa [e1, e2, e3, e4, e5, e6] using this
          have q5 : wr.cell? ⟨w8.heap.size, 5, none⟩ = some (.bool (m1.has 5)) := by have := HRj.out 5 _ rfl; simpa [e1, e2, e3, e4, e5, e6] using this
          have q6 : wr.cell? ⟨w8.heap.size, 6, none⟩ = some (.int .i64 (m1.val 0)) := by have := HRj.out 6 _ rfl; simpa [e1, e2, e3, e4, e5, e6] using this
          have q7 : wr.cell? ⟨w8.heap.size, 7, none⟩ = some (.int .i64 (m1.val 1)) := by have := HRj.out 7 _ rfl; simpa [e1, e2, e3, e4, e5, e6] using this
          have q8 : wr.cell? ⟨w8.heap.size, 8, none⟩ = some (.int .i64 (m1.val 2)) := by have := HRj.out 8 _ rfl; simpa [e1, e2, e3, e4, e5, e6] using this
          have q9 : wr.cell? ⟨w8.heap.size, 9, none⟩ = some (.int .i64 (m1.val 3)) := by have := HRj.out 9 _ rfl; simpa [e1, e2, e3, e4, e5, e6] using this
          have q10 : wr.cell? ⟨w8.heap.size, 10, none⟩ = some (.int .i64 (m1.val 4)) := by have := HRj.out 10 _ rfl; simpa [e1, e2, e3, e4, e5, e6] using this
          have q11 : wr.cell? ⟨w8.heap.size, 11, none⟩ = some (.int .i64 (m1.val 5)) := by have := HRj.out 11 _ rfl; simpa [e1, e2, e3, e4, e5, e6] using this
          have q12 : wr.cell? ⟨w8.heap.size, 12, none⟩ = some (.int .i64 (0 : Int)) := by have := HRj.out 12 _ rfl; simpa [e1, e2, e3, e4, e5, e6] using this
          have q13 : wr.cell? ⟨w8.heap.size, 13, none⟩ = some (.int .i64 (0 : Int)) := by have := HRj.out 13 _ rfl; simpa [e1, e2, e3, e4, e5, e6] using this
          have q14 : wr.cell? ⟨w8.heap.size, 14, none⟩ = some (.int .i64 (0 : Int)) := by have := HRj.out 14 _ rfl; simpa [e1, e2, e3, e4, e5, e6] using this
          have q15 : wr.cell? ⟨w8.heap.size, 15, none⟩ = some (.int .i64 (0 : Int)) := by have := HRj.out 15 _ rfl; simpa [e1, e2, e3, e4, e5, e6] using this
          have r0 : wr.cell? ⟨w8.heap.size + 1, 0, none⟩ = some (.bool (m1.has 0)) := by have := HRk.out 0 _ rfl; simpa [e1, e2, e3, e4, e5, e6] using this
          have r1 : wr.cell? ⟨w8.heap.size + 1, 1, none⟩ = some (.bool (m1.has 1)) := by have := HRk.out 1 _ rfl; simpa [e1, e2, e3, e4, e5, e6] using this
          have r2 : wr.cell? ⟨w8.heap.size + 1, 2, none⟩ = some (.bool (m1.has 2)) := by have := HRk.out 2 _ rfl; simpa [e1, e2, e3, e4, e5, e6] using this
          have r3 : wr.cell? ⟨w8.heap.size + 1, 3, none⟩ = some (.bool (m1.has 3)) := by have := HRk.out 3 _ rfl; simpa [e1, e2, e3, e4, e5, e6] using this
          have r4 : wr.cell? ⟨w8.heap.size + 1, 4, none⟩ = some (.bool (m1.has 4)) := by have := HRk.out 4 _ rfl; simpa [e1, e2, e3, e4, e5, e6] using this
          have r5 : wr.cell? ⟨w8.heap.size + 1, 5, none⟩ = some (.bool (m1.has 5)) := by have := HRk.out 5 _ rfl; simpa [e1, e2, e3, e4, e5, e6] using this
          have r6 : wr.cell? ⟨w8.heap.size + 1, 6, none⟩ = some (.int .i64 (m1.val 0)) := by have := HRk.out 6 _ rfl; simpa [e1, e2, e3, e4, e5, e6] using this
          have r7 : wr.cell? ⟨w8.heap.size + 1, 7, none⟩ = some (.int .i64 (m1.val 1)) := by have := HRk.out 7 _ rfl; simpa [e1, e2, e3, e4, e5, e6] using this
          have r8 : wr.cell? ⟨w8.heap.size + 1, 8, none⟩ = some (.int .i64 (m1.val 2)) := by have := HRk.out 8 _ rfl; simpa [e1, e2, e3, e4, e5, e6] using this
          have r9 : wr.cell? ⟨w8.heap.size + 1, 9, none⟩ = some (.int .i64 (m1.val 3)) := by have := HRk.out 9 _ rfl; simpa [e1, e2, e3, e4, e5, e6] using this
          have r10 : wr.cell? ⟨w8.heap.size + 1, 10, none⟩ = some (.int .i64 (m1.val 4)) := by have := HRk.out 10 _ rfl; simpa [e1, e2, e3, e4, e5, e6] using this
          have r11 : wr.cell? ⟨w8.heap.size + 1, 11, none⟩ = some (.int .i64 (m1.val 5)) := by have := HRk.out 11 _ rfl; simpa [e1, e2, e3, e4, e5, e6] using this
          have HQ := Lib.hid (fun w => quiet_any m1.has m1.val 0 0 0 0 w)
          unfold mv at HQ
          have HBw := Lib.hid (Below.trans HBf.out (HBk.out.mono HBf.out.size))
          clear e1 e2 e3 e4 e5 e6
          go_wp2_with fail
          refine (HQ.out _).mono ?_
          rintro e' w9 ⟨rfl, hb9⟩
          go_wp2_with fail
          go_ret
          exact ⟨by simp, on_past HBw.out hb9⟩

end Go.Proofs.Ytfaabjohlimnlaa
