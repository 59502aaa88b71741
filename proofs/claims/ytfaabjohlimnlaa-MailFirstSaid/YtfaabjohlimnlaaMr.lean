/- The walk of the reference's Sort, and of Seq. No condition. -/
import Derived.Test.YtfaabjohlimnlaaMs
import Derived.Test.YtfaabjohlimnlaaGs
namespace Go.Proofs.Ytfaabjohlimnlaa.Ml
open Go.Proofs.Ytfaabjohlimnlaa
theorem takes_beyond (seq : Int) (ls : List (List Nat)) : ∀ (m : M) (b : Nat), takes seq { m with beyond := b } ls = { takes seq m ls with beyond := b } := by
  induction ls with
  | nil => intro m b; rfl
  | cons l ls ih =>
    intro m b
    rw [takes_cons, takes_cons]
    have : take seq { m with beyond := b } (Fr.get l) = { take seq m (Fr.get l) with beyond := b } := by
      unfold take
      by_cases h1 : (Fr.get l).err ≠ 0
      · rw [if_pos h1, if_pos h1]
      rw [if_neg h1, if_neg h1]
      by_cases h2 : (Fr.get l).seq ≠ seq
      · rw [if_pos h2, if_pos h2]
      rw [if_neg h2, if_neg h2]
      by_cases h3 : m.has (Fr.get l).kind.toNat = true
      · rw [if_pos h3, if_pos h3]
      · rw [if_neg h3, if_neg h3]
    rw [this, ih]
theorem sort_step (cycle : Int) (ls : List (List Nat)) (i : Nat) (h : i < ls.length) (h32 : i < 32) : sort cycle (ls.take (i + 1)) = take (cycle % 256) (sort cycle (ls.take i)) (Fr.get (ls.getD i [])) := by
  have e1 : (ls.take (i + 1)).take 32 = (ls.take i) ++ [ls.getD i []] := by
    rw [List.take_of_length_le (by rw [List.length_take]; omega), List.take_succ_eq_append_getElem h]
    simp [List.getD, h]
  have e2 : (ls.take i).take 32 = ls.take i := List.take_of_length_le (by rw [List.length_take]; omega)
  unfold sort
  rw [e1, e2, takes_snoc, List.length_take, List.length_take, show min (i + 1) ls.length - 32 = 0 by omega, show min i ls.length - 32 = 0 by omega]
theorem sort_over (cycle : Int) (ls : List (List Nat)) (i : Nat) (h : i < ls.length) (h32 : 32 ≤ i) : sort cycle (ls.take (i + 1)) = { sort cycle (ls.take i) with beyond := (sort cycle (ls.take i)).beyond + 1 } := by
  have e1 : (ls.take (i + 1)).take 32 = ls.take 32 := by rw [List.take_take, show min 32 (i + 1) = 32 by omega]
  have e2 : (ls.take i).take 32 = ls.take 32 := by rw [List.take_take, show min 32 i = 32 by omega]
  unfold sort
  rw [e1, e2, List.length_take, List.length_take, show min (i + 1) ls.length - 32 = (i - 32) + 1 by omega, show min i ls.length - 32 = i - 32 by omega]
  have h1 := takes_beyond (cycle % 256) (ls.take 32) (none_ (i - 32)) (i - 32 + 1)
  rw [(none_le (cycle % 256) (i - 32) (ls.take 32)).2.2.2]
  exact h1
theorem sort_le (cycle : Int) (ls : List (List Nat)) : (sort cycle ls).bad ≤ 32 ∧ (sort cycle ls).stale ≤ 32 ∧ (sort cycle ls).twice ≤ 32 ∧ (sort cycle ls).beyond = ls.length - 32 := by
  have := none_le (cycle % 256) (ls.length - 32) (ls.take 32)
  rw [List.length_take] at this
  unfold sort
  omega
end Go.Proofs.Ytfaabjohlimnlaa.Ml
namespace Go.Proofs.Ytfaabjohlimnlaa
open Go.ChangeShapes Go.WideShapes Go.RowKit Go.Sort
set_option linter.unusedVariables false
set_option linter.unusedSimpArgs false

theorem seq_any (c : Int) (w : World) (h : -9223372036854775808 ≤ c) (h' : c ≤ 9223372036854775807) : Calls Try.prog 30 #[.int .i64 c] w fun e w' => e = .returned (.int .i64 (c % 256)) ∧ w = w' := by
  have e1 : c.tmod 256 = if 0 ≤ c ∨ c % 256 = 0 then c % 256 else c % 256 - 256 := by
    rw [Int.tmod_eq_emod]
    split <;> rename_i hh
    · have : 0 ≤ c ∨ c % 256 = 0 := by omega
      rw [if_pos this]; omega
    · have : ¬ (0 ≤ c ∨ c % 256 = 0) := by omega
      rw [if_neg this]; simp
  obtain ⟨x, hx⟩ : ∃ x, x = c.tmod 256 := ⟨_, rfl⟩
  rw [← hx] at e1
  have hb : -256 < x ∧ x < 256 := by rw [e1]; split <;> omega
  have hf : Hid ((x + 256) % 256 = c % 256) := by
    show (x + 256) % 256 = c % 256
    rw [e1]; split <;> omega
  have hlo : 0 ≤ x + 256 := by omega
  have hhi : x + 256 < 512 := by omega
  obtain ⟨hb1, hb2⟩ := hb
  have hx2 := hx.symm
  clear e1 hx
  go_enter Try.func30, Try.ntmps30
  go_wp2_with fail
  go_ret
  exact ⟨ret_int hf.out, rfl⟩

/-- the reference's cells -/
def rcell (m : Ml.M) (i : Nat) : Value :=
  if i < 6 then .int .i64 (if m.has i = true then 1 else 0) else if i < 12 then .int .i64 (m.val (i - 6)) else if i = 12 then .int .i64 m.bad else if i = 13 then .int .i64 m.stale else if i = 14 then .int .i64 m.twice else .int .i64 m.beyond
structure RefAt (w : World) (g : Nat) (m : Ml.M) : Prop where
  cell : ∀ i, i < 16 → w.cell? ⟨g, i, none⟩ = some (rcell m i)
  free : ∀ i, i < 16 → w.frozen? ⟨g, i, none⟩ = false
theorem RefAt.below {w w' : World} {g : Nat} {m : Ml.M} (h : RefAt w g m) (hg : g < w.heap.size) (hb : Below w.heap.size w w') : RefAt w' g m :=
  ⟨fun i hi => (hb.cell (p := ⟨g, i, none⟩) hg).trans (h.cell i hi), fun i hi => (hb.frozen (p := ⟨g, i, none⟩) hg).trans (h.free i hi)⟩
theorem RefAt.drew {w : World} {g : Nat} {m : Ml.M} (h : RefAt w g m) (n : Nat) : RefAt (w.drewN n) g m := ⟨h.cell, h.free⟩
theorem RefAt.set {w : World} {g : Nat} {m m' : Ml.M} (h : RefAt w g m) (k : Nat) (v : Value) (hv : rcell m' k = v) (ho : ∀ i, i < 16 → i ≠ k → rcell m' i = rcell m i) : RefAt (w.setCell ⟨g, k, none⟩ v) g m' := by
  refine ⟨fun i hi => ?_, fun i hi => ?_⟩
  · by_cases e : i = k
    · subst e
      rw [hv]
      exact World.cell?_setCell_same' w _ v (by rw [h.cell i hi]; rfl)
    · rw [ho i hi e, ← h.cell i hi]
      exact World.cell?_setCell_other _ _ _ _ (by simp [Ne.symm e])
  · rw [← h.free i hi]
    simp
theorem RefAt.alloc {w : World} {g : Nat} {m : Ml.M} (h : RefAt w g m) (hg : g < w.heap.size) (o : Obj) : RefAt (w.alloc o) g m := h.below hg (bself w o)
theorem RefAt.lt {w : World} {g : Nat} {m : Ml.M} (h : RefAt w g m) : g < w.heap.size := by
  have h1 := h.cell 0 (by omega)
  exact block_lt_of_cell h1
theorem RefAt.wrong {w : World} {g : Nat} {m m' : Ml.M} (h : RefAt w g m) (j : Nat) (hj : 12 ≤ j) (v : Value) (hv : rcell m' j = v) (hh : m'.has = m.has) (hval : m'.val = m.val) (ho : ∀ i, 12 ≤ i → i < 16 → i ≠ j → rcell m' i = rcell m i) : RefAt (w.setCell ⟨g, j, none⟩ v) g m' := by
  refine h.set j v hv (fun i hi hne => ?_)
  by_cases h12 : 12 ≤ i
  · exact ho i h12 hi hne
  · simp only [rcell, hh, hval]
    repeat' split
    all_goals first | rfl | omega
theorem RefAt.bad {w : World} {g : Nat} {m : Ml.M} (h : RefAt w g m) (n : Int) (hn : n = m.bad + 1) : RefAt (w.setCell ⟨g, 12, none⟩ (.int .i64 n)) g { m with bad := m.bad + 1 } := by
  refine h.set 12 _ (by simp [rcell, hn]) (fun i hi hne => ?_)
  simp only [rcell]
  repeat' split
  all_goals first | rfl | omega
theorem RefAt.stale {w : World} {g : Nat} {m : Ml.M} (h : RefAt w g m) (n : Int) (hn : n = m.stale + 1) : RefAt (w.setCell ⟨g, 13, none⟩ (.int .i64 n)) g { m with stale := m.stale + 1 } := by
  refine h.set 13 _ (by simp [rcell, hn]) (fun i hi hne => ?_)
  simp only [rcell]
  repeat' split
  all_goals first | rfl | omega
theorem RefAt.twice {w : World} {g : Nat} {m : Ml.M} (h : RefAt w g m) (n : Int) (hn : n = m.twice + 1) : RefAt (w.setCell ⟨g, 14, none⟩ (.int .i64 n)) g { m with twice := m.twice + 1 } := by
  refine h.set 14 _ (by simp [rcell, hn]) (fun i hi hne => ?_)
  simp only [rcell]
  repeat' split
  all_goals first | rfl | omega
theorem RefAt.beyond {w : World} {g : Nat} {m : Ml.M} (h : RefAt w g m) (n : Int) (hn : n = m.beyond + 1) : RefAt (w.setCell ⟨g, 15, none⟩ (.int .i64 n)) g { m with beyond := m.beyond + 1 } := by
  refine h.set 15 _ (by simp [rcell, hn]) (fun i hi hne => ?_)
  simp only [rcell]
  repeat' split
  all_goals first | rfl | omega
theorem RefAt.has {w : World} {g : Nat} {m : Ml.M} (h : RefAt w g m) (k : Nat) (hk : k < 6) : RefAt (w.setCell ⟨g, k, none⟩ (.int .i64 1)) g { m with has := Ml.upd m.has k true } := by
  refine h.set k _ (by simp [rcell, hk, Ml.upd]) (fun i hi hne => ?_)
  simp only [rcell, Ml.upd, if_neg hne]
theorem RefAt.val {w : World} {g : Nat} {m : Ml.M} (h : RefAt w g m) (k : Nat) (hk : k < 6) (n : Int) : RefAt (w.setCell ⟨g, 6 + k, none⟩ (.int .i64 n)) g { m with val := Ml.upd m.val k n } := by
  refine h.set (6 + k) _ ?_ (fun i hi hne => ?_)
  · simp only [rcell]; rw [if_neg (by omega), if_pos (by omega), show 6 + k - 6 = k by omega]; simp [Ml.upd]
  · simp only [rcell, Ml.upd]
    repeat' split
    all_goals first | rfl | omega

def Ml.M.rcells (m : Ml.M) : List Value := (List.range 16).map (rcell m)
theorem Ml.M.rcells_one (m : Ml.M) : m.rcells.toArray.all (·.oneCell') = true := by
  apply all_oneCell_toArray
  intro v hv
  obtain ⟨i, _, rfl⟩ := List.mem_map.1 hv
  unfold rcell
  repeat' split
  all_goals rfl
theorem RefAt.range {w : World} {g : Nat} {m : Ml.M} (h : RefAt w g m) : w.rangeAt g 0 m.rcells := fun j v hv => by
  have hj : j < 16 := by simpa [Ml.M.rcells] using (List.getElem?_eq_some_iff.1 hv).1
  rw [Nat.zero_add, h.cell j hj]
  unfold Ml.M.rcells at hv
  rw [List.getElem?_map, List.getElem?_range hj] at hv
  exact hv
theorem refSize : (Try.prog.info? 60).map (·.size) = some 16 := by kernel_rfl
def ref0 : Obj := .cells #[.int .i64 0, .int .i64 0, .int .i64 0, .int .i64 0, .int .i64 0, .int .i64 0, .int .i64 0, .int .i64 0, .int .i64 0, .int .i64 0, .int .i64 0, .int .i64 0, .int .i64 0, .int .i64 0, .int .i64 0, .int .i64 0] 60
theorem RefAt.zero (w : World) (H : Nat) (hH : w.heap.size = H) : RefAt (w.alloc ref0) H (Ml.none_ 0) := by
  subst hH
  refine ⟨fun i hi => ?_, fun i hi => by simp [ref0]⟩
  unfold ref0
  rw [World.cell?_alloc_new]
  have : i = 0 ∨ i = 1 ∨ i = 2 ∨ i = 3 ∨ i = 4 ∨ i = 5 ∨ i = 6 ∨ i = 7 ∨ i = 8 ∨ i = 9 ∨ i = 10 ∨ i = 11 ∨ i = 12 ∨ i = 13 ∨ i = 14 ∨ i = 15 := by omega
  rcases this with rfl | rfl | rfl | rfl | rfl | rfl | rfl | rfl | rfl | rfl | rfl | rfl | rfl | rfl | rfl | rfl <;> rfl
/-- the reference's mail, as a value -/
def Ml.M.rv (m : Ml.M) : Value := .agg m.rcells.toArray

theorem Ml.take_bad {seq : Int} {m : Ml.M} {g : Fr.G} (h : g.err ≠ 0) : Ml.take seq m g = { m with bad := m.bad + 1 } := by unfold Ml.take; rw [if_pos h]
theorem Ml.take_stale {seq : Int} {m : Ml.M} {g : Fr.G} (h : g.err = 0) (h2 : g.seq ≠ seq) : Ml.take seq m g = { m with stale := m.stale + 1 } := by unfold Ml.take; rw [if_neg (by simp [h]), if_pos h2]
theorem Ml.take_twice {seq : Int} {m : Ml.M} {g : Fr.G} (h : g.err = 0) (h2 : g.seq = seq) (h3 : m.has g.kind.toNat = true) : Ml.take seq m g = { m with twice := m.twice + 1 } := by unfold Ml.take; rw [if_neg (by simp [h]), if_neg (by simp [h2]), if_pos h3]
theorem Ml.take_new {seq : Int} {m : Ml.M} {g : Fr.G} (h : g.err = 0) (h2 : g.seq = seq) (h3 : m.has g.kind.toNat = false) : Ml.take seq m g = { m with has := Ml.upd m.has g.kind.toNat true, val := Ml.upd m.val g.kind.toNat g.value } := by unfold Ml.take; rw [if_neg (by simp [h]), if_neg (by simp [h2]), if_neg (by simp [h3])]

set_option maxRecDepth 100000 in
set_option maxHeartbeats 2000000 in
theorem rsort_any (cycle : Int) (A : Option Addr) (rs : List Rw) (c : Nat) (w : World) (hcy : -9223372036854775808 ≤ cycle) (hcy' : cycle ≤ 9223372036854775807) (hr : RdR w A rs) (hcl : rs.length ≤ c) (hcm : c ≤ maxLen) (hm : rs.length ≤ 1000000) (hs : ∀ r ∈ rs, r.l.length ≤ 1000000) :
    Calls Try.prog 29 #[.int .i64 cycle, .slice A rs.length c] w fun e w' => e = .returned (Ml.sort cycle (texts rs)).rv ∧ Below w.heap.size w w' := by
  have HR := Lib.hid hr; clear hr
  have HS := Lib.hid hs; clear hs
  have HSq := Lib.hid (fun w => seq_any cycle w hcy hcy')
  go_enter Try.func29, Try.ntmps29
  go_wp2_with fail
  go_loopw [6, 7, 8] (fun s6 s7 s8 wr => ∃ k : Nat, k ≤ rs.length ∧ s6 = .int .i64 k ∧ RefAt wr (w.heap.size + 1) (Ml.sort cycle ((texts rs).take k)) ∧ Below (w.heap.size + 1) (w.alloc ref0) wr) (fun s6 _ _ _ => rs.length - (intOf s6).toNat)
  case atStart =>
    exact ⟨0, by omega, rfl, RefAt.zero _ _ (by simp), (Below.refl _ _).alloc (by simp) _⟩
  case round =>
    obtain ⟨k, hkl, rfl, HM, HB⟩ := hrel
    have HM1 := Lib.hid HM; clear HM
    have HB1 := Lib.hid HB; clear HB
    have hgr : w.heap.size + 1 < wr.heap.size := HM1.out.lt
    have HLe := Ml.sort_le cycle ((texts rs).take k)
    rw [List.length_take, texts_len] at HLe
    obtain ⟨l1, l2, l3, l4⟩ := HLe
    by_cases hlt : k < rs.length
    · by_cases h32 : 32 ≤ k
      · have HT := Lib.hid (Ml.sort_over cycle (texts rs) k (by rw [texts_len]; exact hlt) h32)
        have q15 := HM1.out.cell 15 (by omega)
        rw [show rcell (Ml.sort cycle ((texts rs).take k)) 15 = .int .i64 (Ml.sort cycle ((texts rs).take k)).beyond from rfl] at q15
        have r15 := HM1.out.free 15 (by omega)
        replace l4 : (Ml.sort cycle ((texts rs).take k)).beyond ≤ 1000000 := by omega
        go_wp2_with fail
        go_roundw
        case rel => exact ⟨k + 1, by omega, by go_num, by rw [HT.out]; exact HM1.out.beyond _ rfl, Below.setCell (p := ⟨w.heap.size + 1, 15, none⟩) HB1.out (by simp) _⟩
        case measure => simp [intOf]; omega
      · have h32' : k < 32 := by omega
        clear h32 l4
        have HT := Lib.hid (Ml.sort_step cycle (texts rs) k (by rw [texts_len]; exact hlt) h32')
        obtain ⟨b, off, rfl, hbl, hcell⟩ := HR.out.at_ (by omega)
        have HB0 := Lib.hid (show Below w.heap.size w wr from (bself w ref0).trans (HB1.out.mono (by omega)))
        have hx := (HB0.out.cell (p := ⟨b, off + k, none⟩) hbl).trans (hcell k hlt)
        have hok := HR.out.get k hlt
        have hsz := HS.out (rs.getD k Rw.z) (by simp [List.getD, hlt])
        have hte : (texts rs).getD k [] = (rs.getD k Rw.z).l := by simp [texts, List.getD, hlt]
        rw [hte] at HT
        generalize rs.getD k Rw.z = r at hx hok hsz HT
        obtain ⟨ra, rl, rc⟩ := r
        unfold Rw.v at hx
        replace HT : Hid (Ml.sort cycle ((texts rs).take (k + 1)) = Ml.take (cycle % 256) (Ml.sort cycle ((texts rs).take k)) (Fr.get rl)) := HT
        generalize Ml.sort cycle ((texts rs).take k) = mm at HM1 HT l1 l2 l3
        have HG := Lib.hid (fun w' (hb : Below w.heap.size w w') => rget_any ra rl rc w' (hok.rd.below hb) hok.cap hok.top hsz)
        have HK := Lib.hid (fun h => Ml.kind_range rl hok.rd.lt h)
        clear hcell hok hte hsz
        generalize Fr.get rl = gg at HG HT HK
        obtain ⟨gk, gs, gv', gn⟩ := gg
        by_cases he : gn = 0
        · subst he
          by_cases hsq : gs = cycle % 256
          · have hkr : 1 ≤ gk ∧ gk ≤ 5 := HK.out rfl
            obtain ⟨kk, rfl⟩ : ∃ kk : Nat, gk = kk := ⟨gk.toNat, by omega⟩
            have hk0 : (0 : Int) ≤ (kk : Int) := by omega
            have hk6 : (kk : Int) < 6 := by omega
            have hz : (gs != cycle % 256) = false := by simp [hsq]
            have HQ := Lib.hid hsq; clear hsq
            cases hh : mm.has kk with
            | true =>
              have HM2 := Lib.hid (Ml.take_twice (g := ⟨(kk : Int), gs, gv', 0⟩) rfl HQ.out hh)
              have HH := Lib.hid hh; clear hh
              go_wp2_with fail
              refine (HG.out _ HB0.out).mono ?_
              rintro e w1 ⟨rfl, hb1⟩
              unfold gv
              have HM3 := Lib.hid (HM1.out.below hgr hb1)
              have qk : w1.cell? ⟨w.heap.size + 1, kk, none⟩ = some (.int .i64 1) := by rw [HM3.out.cell kk (by omega)]; simp only [rcell]; rw [if_pos (by omega), HH.out]; rfl
              have qj : w1.cell? ⟨w.heap.size + 1, 14, none⟩ = some (.int .i64 mm.twice) := HM3.out.cell 14 (by omega)
              have rj : w1.frozen? ⟨w.heap.size + 1, 14, none⟩ = false := HM3.out.free 14 (by omega)
              have hg1 : w.heap.size + 1 < w1.heap.size := Nat.lt_of_lt_of_le hgr hb1.size
              have HB3 := Lib.hid (HB1.out.trans (hb1.mono (show w.heap.size + 1 ≤ wr.heap.size by omega)))
              clear hb1
              go_wp2_with fail
              go_quiet ((go_at_call 30; exact quiet_eq (HSq.out _)))
              go_wp2_with fail
              go_roundw
              case rel => exact ⟨k + 1, by omega, by go_num, by rw [HT.out, HM2.out]; exact ((HM3.out.alloc hg1 _).drew _).twice _ rfl, Below.setCell (p := ⟨w.heap.size + 1, 14, none⟩) (bdN (Below.alloc HB3.out (by omega) _) _) (by simp) _⟩
              case measure => simp [intOf]; omega
            | false =>
              have HM2 := Lib.hid (Ml.take_new (g := ⟨(kk : Int), gs, gv', 0⟩) rfl HQ.out hh)
              have HH := Lib.hid hh; clear hh
              go_wp2_with fail
              refine (HG.out _ HB0.out).mono ?_
              rintro e w1 ⟨rfl, hb1⟩
              unfold gv
              have HM3 := Lib.hid (HM1.out.below hgr hb1)
              have qk : w1.cell? ⟨w.heap.size + 1, kk, none⟩ = some (.int .i64 0) := by rw [HM3.out.cell kk (by omega)]; simp only [rcell]; rw [if_pos (by omega), HH.out]; rfl
              have qj : w1.cell? ⟨w.heap.size + 1, 6 + kk, none⟩ = some (.int .i64 (mm.val kk)) := by rw [HM3.out.cell (6 + kk) (by omega)]; simp only [rcell]; rw [if_neg (by omega), if_pos (by omega), show 6 + kk - 6 = kk by omega]
              have rk : w1.frozen? ⟨w.heap.size + 1, kk, none⟩ = false := HM3.out.free kk (by omega)
              have rj : w1.frozen? ⟨w.heap.size + 1, 6 + kk, none⟩ = false := HM3.out.free (6 + kk) (by omega)
              have hg1 : w.heap.size + 1 < w1.heap.size := Nat.lt_of_lt_of_le hgr hb1.size
              have HB3 := Lib.hid (HB1.out.trans (hb1.mono (show w.heap.size + 1 ≤ wr.heap.size by omega)))
              clear hb1
              go_wp2_with fail
              go_quiet ((go_at_call 30; exact quiet_eq (HSq.out _)))
              go_wp2_with fail
              go_roundw
              case rel => exact ⟨k + 1, by omega, by go_num, by rw [HT.out, HM2.out]; exact (((HM3.out.alloc hg1 _).drew _).has kk (by omega)).val kk (by omega) _, Below.setCell (p := ⟨w.heap.size + 1, 6 + kk, none⟩) (Below.setCell (p := ⟨w.heap.size + 1, kk, none⟩) (bdN (Below.alloc HB3.out (by omega) _) _) (by simp) _) (by simp) _⟩
              case measure => simp [intOf]; omega
          · have HM2 := Lib.hid (Ml.take_stale (m := mm) (g := ⟨gk, gs, gv', 0⟩) rfl hsq)
            have hz : (gs != cycle % 256) = true := by simpa using hsq
            clear hsq
            go_wp2_with fail
            refine (HG.out _ HB0.out).mono ?_
            rintro e w1 ⟨rfl, hb1⟩
            unfold gv
            have HM3 := Lib.hid (HM1.out.below hgr hb1)
            have qj : w1.cell? ⟨w.heap.size + 1, 13, none⟩ = some (.int .i64 mm.stale) := HM3.out.cell 13 (by omega)
            have rj : w1.frozen? ⟨w.heap.size + 1, 13, none⟩ = false := HM3.out.free 13 (by omega)
            have hg1 : w.heap.size + 1 < w1.heap.size := Nat.lt_of_lt_of_le hgr hb1.size
            have HB3 := Lib.hid (HB1.out.trans (hb1.mono (show w.heap.size + 1 ≤ wr.heap.size by omega)))
            clear hb1
            go_wp2_with fail
            go_quiet ((go_at_call 30; exact quiet_eq (HSq.out _)))
            go_wp2_with fail
            go_roundw
            case rel => exact ⟨k + 1, by omega, by go_num, by rw [HT.out, HM2.out]; exact ((HM3.out.alloc hg1 _).drew _).stale _ rfl, Below.setCell (p := ⟨w.heap.size + 1, 13, none⟩) (bdN (Below.alloc HB3.out (by omega) _) _) (by simp) _⟩
            case measure => simp [intOf]; omega
        · have HM2 := Lib.hid (Ml.take_bad (seq := cycle % 256) (m := mm) (g := ⟨gk, gs, gv', gn⟩) he)
          have hz : (gn != 0) = true := by simpa using he
          clear he
          go_wp2_with fail
          refine (HG.out _ HB0.out).mono ?_
          rintro e w1 ⟨rfl, hb1⟩
          unfold gv
          have HM3 := Lib.hid (HM1.out.below hgr hb1)
          have qj : w1.cell? ⟨w.heap.size + 1, 12, none⟩ = some (.int .i64 mm.bad) := HM3.out.cell 12 (by omega)
          have rj : w1.frozen? ⟨w.heap.size + 1, 12, none⟩ = false := HM3.out.free 12 (by omega)
          have hg1 : w.heap.size + 1 < w1.heap.size := Nat.lt_of_lt_of_le hgr hb1.size
          have HB3 := Lib.hid (HB1.out.trans (hb1.mono (show w.heap.size + 1 ≤ wr.heap.size by omega)))
          clear hb1
          go_wp2_with fail
          go_roundw
          case rel => exact ⟨k + 1, by omega, by go_num, by rw [HT.out, HM2.out]; exact (HM3.out.bad _ rfl).alloc (by simpa using hg1) _, Below.alloc (Below.setCell (p := ⟨w.heap.size + 1, 12, none⟩) HB3.out (by simp) _) (by simp; omega) _⟩
          case measure => simp [intOf]; omega
    · have hk : k = rs.length := by omega
      have HM2 := HM1.out
      rw [List.take_of_length_le (by rw [texts_len]; omega)] at HM2
      clear HM1 l1 l2 l3 l4 hk
      obtain ⟨mm, HF⟩ : ∃ mm, Hid (Ml.sort cycle (texts rs) = mm) := ⟨_, Lib.hid rfl⟩
      rw [HF.out] at HM2
      have hrg := Lib.hid HM2.range
      have hth := Lib.hid (there_below (there_alloc_new w _ _ 16 (by simp) _ rfl : (w.alloc ref0).there w.heap.size 0 16) (Nat.lt_succ_self _) HB1.out)
      clear HM2
      go_wp2_with (first
        | (refine wpList_load_mid rfl 60 (.tmp 5) rfl (w.heap.size + 1) 0 rfl mm.rcells _ hrg.out Try.underlying60 rfl refSize ?_)
        | (refine wpList_store_mid rfl 60 (.tmp 4) (.tmp 72) rfl w.heap.size 0 mm.rcells.toArray rfl rfl hth.out refSize mm.rcells_one ?_))
      refine bodyPost_ret (v := mm.rv) (results_cell Try.results29 w.heap.size 0 rfl mm.rcells _ (World.rangeAt_setCells_same _ _ _ _ hth.out) Try.underlying60 rfl refSize) rfl ⟨by rw [HF.out], ?_⟩
      exact below_setCells _ (Nat.le_refl _) _ _ _ ((bself w ref0).trans (HB1.out.mono (by omega)))

end Go.Proofs.Ytfaabjohlimnlaa
