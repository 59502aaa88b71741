/- The walk of mail's Sort. No condition. -/
import Derived.Test.YtfaabjohlimnlaaMt
import Derived.Test.YtfaabjohlimnlaaRg
namespace Go.Proofs.Ytfaabjohlimnlaa
open Go.ChangeShapes Go.WideShapes Go.RowKit Go.Sort
set_option linter.unusedVariables false
set_option linter.unusedSimpArgs false

/-- a row of bytes, as a slice's cell has it -/
structure Rw where
  a : Option Addr
  l : List Nat
  c : Nat
def Rw.v (r : Rw) : Value := .slice r.a r.l.length r.c
def Rw.z : Rw := ⟨none, [], 0⟩
structure RwOk (w : World) (r : Rw) : Prop where
  rd : RdB w r.a r.l
  nil : r.a = none → r.c = 0
  cap : r.l.length ≤ r.c
  top : r.c ≤ maxLen
theorem RwOk.below {w w' : World} {r : Rw} (h : RwOk w r) (hb : Below w.heap.size w w') : RwOk w' r := ⟨h.rd.below hb, h.nil, h.cap, h.top⟩
/-- a slice that reads as these rows -/
structure RdR (w : World) (A : Option Addr) (rs : List Rw) : Prop where
  ok : ∀ r ∈ rs, RwOk w r
  at_ : 0 < rs.length → ∃ b off, A = some ⟨b, off, none⟩ ∧ b < w.heap.size ∧ ∀ i, i < rs.length → w.cell? ⟨b, off + i, none⟩ = some (rs.getD i Rw.z).v
theorem RdR.below {w w' : World} {A : Option Addr} {rs : List Rw} (h : RdR w A rs) (hb : Below w.heap.size w w') : RdR w' A rs := by
  refine ⟨fun r hr => (h.ok r hr).below hb, fun h0 => ?_⟩
  obtain ⟨b, off, e, hlt, hc⟩ := h.at_ h0
  exact ⟨b, off, e, Nat.lt_of_lt_of_le hlt hb.size, fun i hi => (hb.cell (p := ⟨b, off + i, none⟩) hlt).trans (hc i hi)⟩
theorem RdR.drew {w : World} {A : Option Addr} {rs : List Rw} (h : RdR w A rs) (n : Nat) : RdR (w.drewN n) A rs := ⟨fun r hr => ⟨(h.ok r hr).rd.drew n, (h.ok r hr).nil, (h.ok r hr).cap, (h.ok r hr).top⟩, h.at_⟩
theorem RdR.get {w : World} {A : Option Addr} {rs : List Rw} (h : RdR w A rs) (i : Nat) (hi : i < rs.length) : RwOk w (rs.getD i Rw.z) := by
  have e : rs.getD i Rw.z = rs[i] := by simp [List.getD, hi]
  rw [e]; exact h.ok _ (List.getElem_mem hi)
/-- their bytes -/
def texts (rs : List Rw) : List (List Nat) := rs.map Rw.l
theorem texts_len (rs : List Rw) : (texts rs).length = rs.length := by simp [texts]
theorem texts_lt {w : World} {A : Option Addr} {rs : List Rw} (h : RdR w A rs) : ∀ l ∈ texts rs, ∀ x ∈ l, x < 256 := by
  intro l hl
  obtain ⟨r, hr, rfl⟩ := List.mem_map.1 hl
  exact (h.ok r hr).rd.lt
theorem texts_take (rs : List Rw) (n : Nat) (h : n < rs.length) : (texts rs).take (n + 1) = (texts rs).take n ++ [(rs.getD n Rw.z).l] := by
  rw [List.take_succ_eq_append_getElem (by rw [texts_len]; exact h)]
  simp [texts, List.getD, h]

/-- a mail, as a value -/
def Ml.M.v (m : Ml.M) : Value := mv m.has m.val m.bad m.stale m.twice m.beyond

def Ml.M.cells (m : Ml.M) : List Value := [.bool (m.has 0), .bool (m.has 1), .bool (m.has 2), .bool (m.has 3), .bool (m.has 4), .bool (m.has 5), .int .i64 (m.val 0), .int .i64 (m.val 1), .int .i64 (m.val 2), .int .i64 (m.val 3), .int .i64 (m.val 4), .int .i64 (m.val 5), .int .i64 m.bad, .int .i64 m.stale, .int .i64 m.twice, .int .i64 m.beyond]
theorem Ml.M.cells_at (m : Ml.M) (i : Nat) (v : Value) (h : m.cells[i]? = some v) : i < 16 ∧ mcell m i = v := by
  have hi : i < 16 := (List.getElem?_eq_some_iff.1 h).1
  refine ⟨hi, ?_⟩
  have : i = 0 ∨ i = 1 ∨ i = 2 ∨ i = 3 ∨ i = 4 ∨ i = 5 ∨ i = 6 ∨ i = 7 ∨ i = 8 ∨ i = 9 ∨ i = 10 ∨ i = 11 ∨ i = 12 ∨ i = 13 ∨ i = 14 ∨ i = 15 := by omega
  rcases this with rfl | rfl | rfl | rfl | rfl | rfl | rfl | rfl | rfl | rfl | rfl | rfl | rfl | rfl | rfl | rfl <;> (cases h; rfl)
theorem Ml.M.cells_one (m : Ml.M) : m.cells.toArray.all (·.oneCell') = true := by simp [Ml.M.cells, Value.oneCell']
theorem MailAt.range {w : World} {g : Nat} {m : Ml.M} (h : MailAt w g m) : w.rangeAt g 0 m.cells := fun j v hv => by
  obtain ⟨hj, e⟩ := m.cells_at j v hv
  rw [Nat.zero_add, h.cell j hj, e]
theorem mailSize : (Try.prog.info? 55).map (·.size) = some 16 := by kernel_rfl

theorem and_255 (c : Int) : bits .and .i64 c 255 = c % 256 := by
  show IntKind.i64.wrap ((BitVec.ofInt 64 c &&& BitVec.ofInt 64 255).toNat : Int) = _
  have e : (BitVec.ofInt 64 c &&& BitVec.ofInt 64 255).toNat = (c % 256).toNat := by
    rw [BitVec.toNat_and, BitVec.toNat_ofInt, show (BitVec.ofInt 64 255).toNat = 2 ^ 8 - 1 from rfl, Nat.and_two_pow_sub_one_eq_mod]
    have h1 : (0 : Int) ≤ c % ((2 ^ 64 : Nat) : Int) := Int.emod_nonneg _ (by decide)
    generalize h : c % ((2 ^ 64 : Nat) : Int) = x at h1
    have h2 : ((2 ^ 64 : Nat) : Int) = 18446744073709551616 := by decide
    rw [h2] at h
    omega
  rw [e]
  have h0 : 0 ≤ c % 256 := by omega
  have h1 : c % 256 < 256 := by omega
  rw [Int.toNat_of_nonneg h0]
  generalize c % 256 = y at h0 h1
  rw [IntKind.wrap_i64]
  omega
theorem MailAt.new (w : World) (H : Nat) (hH : w.heap.size = H) (b : Nat) (n : Int) (hn : n = b) (T : TypeId) :
    MailAt (w.alloc (.cells #[.bool false, .bool false, .bool false, .bool false, .bool false, .bool false, .int .i64 0, .int .i64 0, .int .i64 0, .int .i64 0, .int .i64 0, .int .i64 0, .int .i64 0, .int .i64 0, .int .i64 0, .int .i64 n] T)) H (Ml.none_ b) := by
  subst hH hn
  refine ⟨fun i hi => ?_, fun i hi => by simp⟩
  rw [World.cell?_alloc_new]
  have : i = 0 ∨ i = 1 ∨ i = 2 ∨ i = 3 ∨ i = 4 ∨ i = 5 ∨ i = 6 ∨ i = 7 ∨ i = 8 ∨ i = 9 ∨ i = 10 ∨ i = 11 ∨ i = 12 ∨ i = 13 ∨ i = 14 ∨ i = 15 := by omega
  rcases this with rfl | rfl | rfl | rfl | rfl | rfl | rfl | rfl | rfl | rfl | rfl | rfl | rfl | rfl | rfl | rfl <;> rfl

/-- an empty mail's block -/
def mail0 : Obj := .cells #[.bool false, .bool false, .bool false, .bool false, .bool false, .bool false, .int .i64 0, .int .i64 0, .int .i64 0, .int .i64 0, .int .i64 0, .int .i64 0, .int .i64 0, .int .i64 0, .int .i64 0, .int .i64 0] 55
theorem MailAt.zero (w : World) : MailAt (w.alloc mail0) w.heap.size (Ml.none_ 0) := MailAt.new w _ rfl 0 0 rfl _

set_option maxRecDepth 100000 in
set_option maxHeartbeats 1000000 in
theorem sort_any (cycle : Int) (A : Option Addr) (rs : List Rw) (c : Nat) (w : World) (hr : RdR w A rs) (hcl : rs.length ≤ c) (hcm : c ≤ maxLen) (hm : rs.length ≤ 1000000) (hs : ∀ r ∈ rs, r.l.length ≤ 1000000) :
    Calls Try.prog 28 #[.int .i64 cycle, .slice A rs.length c] w fun e w' => e = .returned (Ml.sort cycle (texts rs)).v ∧ Below w.heap.size w w' := by
  have HR := Lib.hid hr; clear hr
  have HS := Lib.hid hs; clear hs
  have HAnd := Lib.hid (and_255 cycle)
  go_enter Try.func28, Try.ntmps28
  go_wp2_with fail
  all_goals
    try simp only [show (max (32 : Int) 0) = 32 from rfl]
    go_loopw [21, 8] (fun s21 s8 wr => ∃ k : Nat, k ≤ 32 ∧ k ≤ rs.length ∧ s21 = .int .i64 k ∧ MailAt wr (w.heap.size + 1) (Ml.takes (cycle % 256) (Ml.none_ (rs.length - 32)) ((texts rs).take k)) ∧ Below (w.heap.size + 1) (w.alloc mail0) wr) (fun s21 _ _ => 32 - (intOf s21).toNat)
    case atStart =>
      refine ⟨0, by omega, by omega, rfl, MailAt.new _ _ (by simp) _ _ (by omega) _, ?_⟩
      have := bself (w.alloc mail0) (.cells #[] 55)
      exact (Below.refl _ _).alloc (by simp) _
    case round =>
      obtain ⟨k, hk32, hkl, rfl, HM, HB⟩ := hrel
      have HM1 := Lib.hid HM; clear HM
      have HB1 := Lib.hid HB; clear HB
      by_cases hlt : k < 32 ∧ k < rs.length
      · obtain ⟨hlt1, hlt2⟩ := hlt
        obtain ⟨b, off, rfl, hbl, hcell⟩ := HR.out.at_ (by omega)
        have HB0 := Lib.hid (show Below w.heap.size w wr from (bself w mail0).trans (HB1.out.mono (by omega)))
        have hx := (HB0.out.cell (p := ⟨b, off + k, none⟩) hbl).trans (hcell k hlt2)
        have hok := HR.out.get k hlt2
        have hsz := HS.out (rs.getD k Rw.z) (by simp [List.getD, hlt2])
        have HT := Lib.hid (texts_take rs k hlt2)
        generalize rs.getD k Rw.z = r at hx hok hsz HT
        obtain ⟨ra, rl, rc⟩ := r
        unfold Rw.v at hx
        have HOk := Lib.hid hok
        clear hcell hok
        go_wp2_with fail
        rw [HAnd.out]
        refine (take_any (cycle % 256) (w.heap.size + 1) (w.heap.size + 1) _ ra rl rc _ HM1.out (by omega) ?_ (HOk.out.rd.below HB0.out) HOk.out.cap HOk.out.top hsz).mono ?_
        · have := Ml.none_le (cycle % 256) (rs.length - 32) ((texts rs).take k)
          rw [List.length_take] at this
          omega
        rintro e w2 ⟨rfl, hm2, hb2⟩
        have HM2 := Lib.hid hm2; clear hm2
        have HB2 := Lib.hid (HB1.out.trans hb2); clear hb2
        go_wp2_with fail
        go_roundw
        case rel => exact ⟨k + 1, by omega, by omega, by go_num, by rw [HT.out, Ml.takes_snoc]; exact HM2.out, HB2.out⟩
        case measure => simp [intOf]; omega
      · have e32 : (texts rs).take k = (texts rs).take 32 := by
          by_cases h : k = 32
          · rw [h]
          · rw [List.take_of_length_le (by rw [texts_len]; omega), List.take_of_length_le (by rw [texts_len]; omega)]
        have HM2 := HM1.out
        rw [e32] at HM2
        have HF := Lib.hid (show Ml.sort cycle (texts rs) = Ml.takes (cycle % 256) (Ml.none_ (rs.length - 32)) ((texts rs).take 32) by unfold Ml.sort; rw [texts_len])
        clear HM1 e32
        generalize Ml.takes (cycle % 256) (Ml.none_ (rs.length - 32)) ((texts rs).take 32) = mm at HM2 HF
        have hrg := Lib.hid HM2.range
        have hth := Lib.hid (there_below (there_alloc_new w _ _ 16 (by simp) _ rfl : (w.alloc mail0).there w.heap.size 0 16) (Nat.lt_succ_self _) HB1.out)
        clear HM2
        go_wp2_with (first
          | (refine wpList_load_mid rfl 55 (.tmp 6) rfl (w.heap.size + 1) 0 rfl mm.cells _ hrg.out Try.underlying55 rfl mailSize ?_)
          | (refine wpList_store_mid rfl 55 (.tmp 4) (.tmp 30) rfl w.heap.size 0 mm.cells.toArray rfl rfl hth.out mailSize mm.cells_one ?_))
        refine bodyPost_ret (v := mm.v) (results_cell Try.results28 w.heap.size 0 rfl mm.cells _ (World.rangeAt_setCells_same _ _ _ _ hth.out) Try.underlying55 rfl mailSize) rfl ⟨by rw [HF.out], ?_⟩
        exact below_setCells _ (Nat.le_refl _) _ _ _ ((bself w mail0).trans (HB1.out.mono (by omega)))

end Go.Proofs.Ytfaabjohlimnlaa
