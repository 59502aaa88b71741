/- The walk of take: a text is taken, or counted. No condition. -/
import Derived.Test.YtfaabjohlimnlaaMw
import Derived.Deep.DeepCutAuto
namespace Go.Proofs.Ytfaabjohlimnlaa
open Go.ChangeShapes Go.WideShapes Go.RowKit Go.Sort
set_option linter.unusedVariables false
set_option linter.unusedSimpArgs false

/-- a mail's cells -/
def mcell (m : Ml.M) (i : Nat) : Value :=
  if i < 6 then .bool (m.has i) else if i < 12 then .int .i64 (m.val (i - 6)) else if i = 12 then .int .i64 m.bad else if i = 13 then .int .i64 m.stale else if i = 14 then .int .i64 m.twice else .int .i64 m.beyond
/-- a mail lies in a block -/
structure MailAt (w : World) (g : Nat) (m : Ml.M) : Prop where
  cell : ∀ i, i < 16 → w.cell? ⟨g, i, none⟩ = some (mcell m i)
  free : ∀ i, i < 16 → w.frozen? ⟨g, i, none⟩ = false

theorem MailAt.below {w w' : World} {g : Nat} {m : Ml.M} (h : MailAt w g m) (hg : g < w.heap.size) (hb : Below w.heap.size w w') : MailAt w' g m :=
  ⟨fun i hi => (hb.cell (p := ⟨g, i, none⟩) hg).trans (h.cell i hi), fun i hi => (hb.frozen (p := ⟨g, i, none⟩) hg).trans (h.free i hi)⟩
theorem MailAt.drew {w : World} {g : Nat} {m : Ml.M} (h : MailAt w g m) (n : Nat) : MailAt (w.drewN n) g m := ⟨h.cell, h.free⟩
theorem MailAt.set {w : World} {g : Nat} {m m' : Ml.M} (h : MailAt w g m) (k : Nat) (v : Value) (hv : mcell m' k = v) (ho : ∀ i, i < 16 → i ≠ k → mcell m' i = mcell m i) : MailAt (w.setCell ⟨g, k, none⟩ v) g m' := by
  refine ⟨fun i hi => ?_, fun i hi => ?_⟩
  · by_cases e : i = k
    · subst e
      rw [hv]
      exact World.cell?_setCell_same' w _ v (by rw [h.cell i hi]; rfl)
    · rw [ho i hi e, ← h.cell i hi]
      exact World.cell?_setCell_other _ _ _ _ (by simp [Ne.symm e])
  · rw [← h.free i hi]
    simp

theorem MailAt.alloc {w : World} {g : Nat} {m : Ml.M} (h : MailAt w g m) (hg : g < w.heap.size) (o : Obj) : MailAt (w.alloc o) g m := h.below hg (bself w o)
theorem MailAt.lt {w : World} {g : Nat} {m : Ml.M} (h : MailAt w g m) : g < w.heap.size := by
  have h1 := h.cell 0 (by omega)
  exact block_lt_of_cell h1
theorem MailAt.bad {w : World} {g : Nat} {m : Ml.M} (h : MailAt w g m) (n : Int) (hn : n = m.bad + 1) : MailAt (w.setCell ⟨g, 12, none⟩ (.int .i64 n)) g { m with bad := m.bad + 1 } := by
  refine h.set 12 _ (by simp [mcell, hn]) (fun i hi hne => ?_)
  simp only [mcell]
  repeat' split
  all_goals first | rfl | omega
theorem MailAt.stale {w : World} {g : Nat} {m : Ml.M} (h : MailAt w g m) (n : Int) (hn : n = m.stale + 1) : MailAt (w.setCell ⟨g, 13, none⟩ (.int .i64 n)) g { m with stale := m.stale + 1 } := by
  refine h.set 13 _ (by simp [mcell, hn]) (fun i hi hne => ?_)
  simp only [mcell]
  repeat' split
  all_goals first | rfl | omega
theorem MailAt.twice {w : World} {g : Nat} {m : Ml.M} (h : MailAt w g m) (n : Int) (hn : n = m.twice + 1) : MailAt (w.setCell ⟨g, 14, none⟩ (.int .i64 n)) g { m with twice := m.twice + 1 } := by
  refine h.set 14 _ (by simp [mcell, hn]) (fun i hi hne => ?_)
  simp only [mcell]
  repeat' split
  all_goals first | rfl | omega
theorem MailAt.has {w : World} {g : Nat} {m : Ml.M} (h : MailAt w g m) (k : Nat) (hk : k < 6) : MailAt (w.setCell ⟨g, k, none⟩ (.bool true)) g { m with has := Ml.upd m.has k true } := by
  refine h.set k _ (by simp [mcell, hk, Ml.upd]) (fun i hi hne => ?_)
  simp only [mcell, Ml.upd]
  repeat' split
  all_goals first | rfl | omega
theorem MailAt.val {w : World} {g : Nat} {m : Ml.M} (h : MailAt w g m) (k : Nat) (hk : k < 6) (n : Int) : MailAt (w.setCell ⟨g, 6 + k, none⟩ (.int .i64 n)) g { m with val := Ml.upd m.val k n } := by
  refine h.set (6 + k) _ ?_ (fun i hi hne => ?_)
  · simp only [mcell]; rw [if_neg (by omega), if_pos (by omega), show 6 + k - 6 = k by omega]; simp [Ml.upd]
  · simp only [mcell, Ml.upd]
    repeat' split
    all_goals first | rfl | omega
theorem MailAt.sb {w w1 : World} {g B : Nat} {m : Ml.M} (h : Below B w w1) (hg : B ≤ g) (k : Nat) (v : Value) : Below B w (w1.setCell ⟨g, k, none⟩ v) := Below.setCell (p := ⟨g, k, none⟩) h hg _

theorem MailAt.facts {w : World} {g : Nat} {m : Ml.M} (h : MailAt w g m) : (w.cell? ⟨g, 12, none⟩ = some (.int .i64 m.bad) ∧ w.cell? ⟨g, 13, none⟩ = some (.int .i64 m.stale) ∧ w.cell? ⟨g, 14, none⟩ = some (.int .i64 m.twice)) ∧
    (w.frozen? ⟨g, 12, none⟩ = false ∧ w.frozen? ⟨g, 13, none⟩ = false ∧ w.frozen? ⟨g, 14, none⟩ = false) :=
  ⟨⟨h.cell 12 (by omega), h.cell 13 (by omega), h.cell 14 (by omega)⟩, h.free 12 (by omega), h.free 13 (by omega), h.free 14 (by omega)⟩

set_option maxHeartbeats 1000000 in
theorem take_bad (seq : Int) (g B : Nat) (m : Ml.M) (a : Option Addr) (l : List Nat) (c : Nat) (w : World) (hm : MailAt w g m) (hB : B ≤ g) (hg : g < w.heap.size) (hn : m.bad ≤ 1000)
    (ha : RdB w a l) (hcl : l.length ≤ c) (hcm : c ≤ maxLen) (hl : l.length ≤ 1000000) (he : (Fr.get l).err ≠ 0) :
    Calls Try.prog 39 #[.pointer (some ⟨g, 0, none⟩), .int .i64 seq, .slice a l.length c] w fun e w' => e = .returned (.tuple #[]) ∧ MailAt w' g (Ml.take seq m (Fr.get l)) ∧ Below B w w' := by
  have HM := Lib.hid (show Ml.take seq m (Fr.get l) = { m with bad := m.bad + 1 } by unfold Ml.take; rw [if_pos he])
  have HG := Lib.hid (fun w (hr : RdB w a l) => get_any a l c w hr hcl hcm hl)
  have HA := Lib.hid ha; clear ha
  have HMA := Lib.hid hm
  generalize Fr.get l = gg at HM HG he
  obtain ⟨gk, gs, gv', gn⟩ := gg
  replace he : gn ≠ 0 := he
  have z : (gn != 0) = true := by simpa using he
  clear he hm
  go_enter Try.func39, Try.ntmps39
  go_wp2_with fail
  refine (HG.out _ HA.out).mono ?_
  rintro e w1 ⟨rfl, hb1⟩
  unfold gv
  have HM1 := Lib.hid (HMA.out.below hg hb1)
  obtain ⟨⟨q12, _, _⟩, r12, _, _⟩ := HM1.out.facts
  have hg1 : g < w1.heap.size := Nat.lt_of_lt_of_le hg hb1.size
  have HB1 := Lib.hid (hb1.mono (show B ≤ w.heap.size by omega))
  clear hb1
  go_wp2_with fail
  go_end0
  refine ⟨rfl, ?_, ?_⟩
  · rw [HM.out]
    exact (HM1.out.bad _ rfl).alloc (by simpa using hg1) _
  · exact Below.alloc (Below.setCell (p := ⟨g, 12, none⟩) HB1.out hB _) (by simp; omega) _

set_option maxHeartbeats 1000000 in
theorem take_stale (seq : Int) (g B : Nat) (m : Ml.M) (a : Option Addr) (l : List Nat) (c : Nat) (w : World) (hm : MailAt w g m) (hB : B ≤ g) (hg : g < w.heap.size) (hn : m.stale ≤ 1000)
    (ha : RdB w a l) (hcl : l.length ≤ c) (hcm : c ≤ maxLen) (hl : l.length ≤ 1000000) (he : (Fr.get l).err = 0) (hs : (Fr.get l).seq ≠ seq) :
    Calls Try.prog 39 #[.pointer (some ⟨g, 0, none⟩), .int .i64 seq, .slice a l.length c] w fun e w' => e = .returned (.tuple #[]) ∧ MailAt w' g (Ml.take seq m (Fr.get l)) ∧ Below B w w' := by
  have HM := Lib.hid (show Ml.take seq m (Fr.get l) = { m with stale := m.stale + 1 } by unfold Ml.take; rw [if_neg (by simp [he]), if_pos hs])
  have HG := Lib.hid (fun w (hr : RdB w a l) => get_any a l c w hr hcl hcm hl)
  have HA := Lib.hid ha; clear ha
  have HMA := Lib.hid hm
  generalize Fr.get l = gg at HM HG he hs
  obtain ⟨gk, gs, gv', gn⟩ := gg
  replace he : gn = 0 := he
  subst he
  replace hs : gs ≠ seq := hs
  have z : (gs != seq) = true := by simpa using hs
  clear hs hm
  go_enter Try.func39, Try.ntmps39
  go_wp2_with fail
  refine (HG.out _ HA.out).mono ?_
  rintro e w1 ⟨rfl, hb1⟩
  unfold gv
  have HM1 := Lib.hid (HMA.out.below hg hb1)
  obtain ⟨⟨_, q12, _⟩, _, r12, _⟩ := HM1.out.facts
  have hg1 : g < w1.heap.size := Nat.lt_of_lt_of_le hg hb1.size
  have HB1 := Lib.hid (hb1.mono (show B ≤ w.heap.size by omega))
  clear hb1
  go_wp2_with fail
  go_end0
  refine ⟨rfl, ?_, ?_⟩
  · rw [HM.out]
    exact (HM1.out.stale _ rfl).alloc (by simpa using hg1) _
  · exact Below.alloc (Below.setCell (p := ⟨g, 13, none⟩) HB1.out hB _) (by simp; omega) _

set_option maxHeartbeats 1000000 in
theorem take_twice (g B : Nat) (m : Ml.M) (a : Option Addr) (l : List Nat) (c : Nat) (w : World) (hm : MailAt w g m) (hB : B ≤ g) (hg : g < w.heap.size) (hn : m.twice ≤ 1000)
    (ha : RdB w a l) (hcl : l.length ≤ c) (hcm : c ≤ maxLen) (hl : l.length ≤ 1000000) (he : (Fr.get l).err = 0) (hh : m.has (Fr.get l).kind.toNat = true) :
    Calls Try.prog 39 #[.pointer (some ⟨g, 0, none⟩), .int .i64 (Fr.get l).seq, .slice a l.length c] w fun e w' => e = .returned (.tuple #[]) ∧ MailAt w' g (Ml.take (Fr.get l).seq m (Fr.get l)) ∧ Below B w w' := by
  have HM := Lib.hid (show Ml.take (Fr.get l).seq m (Fr.get l) = { m with twice := m.twice + 1 } by unfold Ml.take; rw [if_neg (by simp [he]), if_neg (by simp), if_pos hh])
  have HG := Lib.hid (fun w (hr : RdB w a l) => get_any a l c w hr hcl hcm hl)
  have hk := Ml.kind_range l ha.lt he
  have HA := Lib.hid ha; clear ha
  have HMA := Lib.hid hm
  generalize Fr.get l = gg at HM HG he hh hk
  obtain ⟨gk, gs, gv', gn⟩ := gg
  replace he : gn = 0 := he
  subst he
  replace hk : 1 ≤ gk ∧ gk ≤ 5 := hk
  obtain ⟨k, rfl⟩ : ∃ k : Nat, gk = k := ⟨gk.toNat, by omega⟩
  have z : (gs != gs) = false := by simp
  have HH := Lib.hid (show m.has k = true from hh)
  obtain ⟨hk1, hk5⟩ := hk
  have hk0 : (0 : Int) ≤ (k : Int) := by omega
  have hk6 : (k : Int) < 6 := by omega
  clear hm hh
  go_enter Try.func39, Try.ntmps39
  go_wp2_with fail
  refine (HG.out _ HA.out).mono ?_
  rintro e w1 ⟨rfl, hb1⟩
  unfold gv
  have HM1 := Lib.hid (HMA.out.below hg hb1)
  obtain ⟨⟨_, _, q12⟩, _, _, r12⟩ := HM1.out.facts
  have qk : w1.cell? ⟨g, k, none⟩ = some (.bool true) := by rw [HM1.out.cell k (by omega)]; simp only [mcell]; rw [if_pos (by omega), HH.out]
  have hg1 : g < w1.heap.size := Nat.lt_of_lt_of_le hg hb1.size
  have HB1 := Lib.hid (hb1.mono (show B ≤ w.heap.size by omega))
  clear hb1
  go_wp2_with fail
  go_quiet (fail)
  go_wp2_with fail
  go_end0
  refine ⟨rfl, ?_, ?_⟩
  · rw [HM.out]
    exact ((HM1.out.alloc hg1 _).drew _).twice _ rfl
  · exact Below.setCell (p := ⟨g, 14, none⟩) (bdN (Below.alloc HB1.out (by omega) _) _) hB _

set_option maxHeartbeats 1000000 in
theorem take_new (g B : Nat) (m : Ml.M) (a : Option Addr) (l : List Nat) (c : Nat) (w : World) (hm : MailAt w g m) (hB : B ≤ g) (hg : g < w.heap.size)
    (ha : RdB w a l) (hcl : l.length ≤ c) (hcm : c ≤ maxLen) (hl : l.length ≤ 1000000) (he : (Fr.get l).err = 0) (hh : m.has (Fr.get l).kind.toNat = false) :
    Calls Try.prog 39 #[.pointer (some ⟨g, 0, none⟩), .int .i64 (Fr.get l).seq, .slice a l.length c] w fun e w' => e = .returned (.tuple #[]) ∧ MailAt w' g (Ml.take (Fr.get l).seq m (Fr.get l)) ∧ Below B w w' := by
  have HM := Lib.hid (show Ml.take (Fr.get l).seq m (Fr.get l) = { m with has := Ml.upd m.has (Fr.get l).kind.toNat true, val := Ml.upd m.val (Fr.get l).kind.toNat (Fr.get l).value } by unfold Ml.take; rw [if_neg (by simp [he]), if_neg (by simp), if_neg (by simp [hh])])
  have HG := Lib.hid (fun w (hr : RdB w a l) => get_any a l c w hr hcl hcm hl)
  have hk := Ml.kind_range l ha.lt he
  have HA := Lib.hid ha; clear ha
  have HMA := Lib.hid hm
  generalize Fr.get l = gg at HM HG he hh hk
  obtain ⟨gk, gs, gv', gn⟩ := gg
  replace he : gn = 0 := he
  subst he
  replace hk : 1 ≤ gk ∧ gk ≤ 5 := hk
  obtain ⟨k, rfl⟩ : ∃ k : Nat, gk = k := ⟨gk.toNat, by omega⟩
  have z : (gs != gs) = false := by simp
  have HH := Lib.hid (show m.has k = false from hh)
  obtain ⟨hk1, hk5⟩ := hk
  have hk0 : (0 : Int) ≤ (k : Int) := by omega
  have hk6 : (k : Int) < 6 := by omega
  clear hm hh
  go_enter Try.func39, Try.ntmps39
  go_wp2_with fail
  refine (HG.out _ HA.out).mono ?_
  rintro e w1 ⟨rfl, hb1⟩
  unfold gv
  have HM1 := Lib.hid (HMA.out.below hg hb1)
  have qk : w1.cell? ⟨g, k, none⟩ = some (.bool false) := by rw [HM1.out.cell k (by omega)]; simp only [mcell]; rw [if_pos (by omega), HH.out]
  have qv : w1.cell? ⟨g, 6 + k, none⟩ = some (.int .i64 (m.val k)) := by rw [HM1.out.cell (6 + k) (by omega)]; simp only [mcell]; rw [if_neg (by omega), if_pos (by omega), show 6 + k - 6 = k by omega]
  have fk : w1.frozen? ⟨g, k, none⟩ = false := HM1.out.free k (by omega)
  have fv : w1.frozen? ⟨g, 6 + k, none⟩ = false := HM1.out.free (6 + k) (by omega)
  have hg1 : g < w1.heap.size := Nat.lt_of_lt_of_le hg hb1.size
  have HB1 := Lib.hid (hb1.mono (show B ≤ w.heap.size by omega))
  clear hb1
  go_wp2_with fail
  go_quiet (fail)
  go_wp2_with fail
  go_region
  go_wp2_with fail
  go_end0
  refine ⟨rfl, ?_, ?_⟩
  · rw [HM.out]
    simp only [Int.toNat_natCast]
    exact (((HM1.out.alloc hg1 _).drew _).has k (by omega)).val k (by omega) _
  · exact Below.setCell (p := ⟨g, 6 + k, none⟩) (Below.setCell (p := ⟨g, k, none⟩) (bdN (Below.alloc HB1.out (by omega) _) _) hB _) hB _

theorem take_any (seq : Int) (g B : Nat) (m : Ml.M) (a : Option Addr) (l : List Nat) (c : Nat) (w : World) (hm : MailAt w g m) (hB : B ≤ g) (hn : m.bad ≤ 1000 ∧ m.stale ≤ 1000 ∧ m.twice ≤ 1000)
    (ha : RdB w a l) (hcl : l.length ≤ c) (hcm : c ≤ maxLen) (hl : l.length ≤ 1000000) :
    Calls Try.prog 39 #[.pointer (some ⟨g, 0, none⟩), .int .i64 seq, .slice a l.length c] w fun e w' => e = .returned (.tuple #[]) ∧ MailAt w' g (Ml.take seq m (Fr.get l)) ∧ Below B w w' := by
  have hg := hm.lt
  by_cases he : (Fr.get l).err = 0
  · by_cases hs : (Fr.get l).seq = seq
    · subst hs
      cases hh : m.has (Fr.get l).kind.toNat with
      | true => exact take_twice g B m a l c w hm hB hg hn.2.2 ha hcl hcm hl he hh
      | false => exact take_new g B m a l c w hm hB hg ha hcl hcm hl he hh
    · exact take_stale seq g B m a l c w hm hB hg hn.2.1 ha hcl hcm hl he hs
  · exact take_bad seq g B m a l c w hm hB hg hn.1 ha hcl hcm hl he

end Go.Proofs.Ytfaabjohlimnlaa
