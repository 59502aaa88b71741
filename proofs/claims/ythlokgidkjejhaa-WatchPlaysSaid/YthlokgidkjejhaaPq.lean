/- The walk of the law WatchPlays, the other inputs; and the slice of cycles that came in, opened. No condition. -/
import Derived.Test.YthlokgidkjejhaaPl
import Derived.Test.YthlokgidkjejhaaCo
import Derived.Deep.Slices
import Derived.Deep.Fields
import Derived.ChangeSame
namespace Go.Proofs.Ythlokgidkjejhaa
open Go.ChangeShapes Go.WideShapes Go.RowKit Go.Sort Go.Joins Go.Deep
set_option linter.unusedVariables false
set_option linter.unusedSimpArgs false

set_option maxHeartbeats 1000000 in
set_option maxRecDepth 100000 in
theorem plays_bad (c : Cfg) (a : Option Addr) (len cap : Nat) (w : World) (h : ¬ c.ok) :
    Calls Try.prog 5 #[c.val, .slice a len cap] w fun e w' => e = .returned (.bool true) ∧ Below w.heap.size w w' := by
  have hw := fun w => wrong_bad c w h
  have hW := Lib.hid hw; clear hw h
  unfold Cfg.val
  go_enter Try.func5, Try.ntmps5
  go_wp2_with fail
  refine (anchor_any _).mono ?_
  rintro e w1 ⟨rfl, hb1⟩
  obtain ⟨hc, hf, hl⟩ := bcell hb1
  go_wp2_with fail
  refine (hW.out _).mono ?_
  rintro e w2 ⟨⟨n, hn, rfl⟩, hb2⟩
  have hn' : (n != 0) = true := by simpa using hn
  go_wp2_with fail
  go_ret
  exact ⟨rfl, on_past (on_past (bself _ _) hb1) hb2⟩

set_option maxHeartbeats 1000000 in
set_option maxRecDepth 100000 in
theorem plays_long (c : Cfg) (a : Option Addr) (len cap : Nat) (w : World) (h : c.ok) (hlen : 3000 < len) :
    Calls Try.prog 5 #[c.val, .slice a len cap] w fun e w' => e = .returned (.bool true) ∧ Below w.heap.size w w' := by
  have hw := fun w => wrong_ok c w h
  have hW := Lib.hid hw; clear hw h
  unfold Cfg.val
  go_enter Try.func5, Try.ntmps5
  go_wp2_with fail
  refine (anchor_any _).mono ?_
  rintro e w1 ⟨rfl, hb1⟩
  obtain ⟨hc, hf, hl⟩ := bcell hb1
  go_wp2_with fail
  refine (hW.out _).mono ?_
  rintro e w2 ⟨rfl, hb2⟩
  go_wp2_with fail
  go_ret
  exact ⟨rfl, on_past (on_past (bself _ _) hb1) hb2⟩

set_option maxHeartbeats 1000000 in
set_option maxRecDepth 100000 in
theorem plays_none (c : Cfg) (a : Option Addr) (cap : Nat) (w : World) (h : c.ok) :
    Calls Try.prog 5 #[c.val, .slice a 0 cap] w fun e w' => e = .returned (.bool true) ∧ Below w.heap.size w w' := by
  have hw := fun w => wrong_ok c w h
  have hW := Lib.hid hw; clear hw h
  unfold Cfg.val
  go_enter Try.func5, Try.ntmps5
  go_wp2_with fail
  refine (anchor_any _).mono ?_
  rintro e w1 ⟨rfl, hb1⟩
  obtain ⟨hc, hf, hl⟩ := bcell hb1
  go_wp2_with fail
  refine (hW.out _).mono ?_
  rintro e w2 ⟨rfl, hb2⟩
  go_wp2_with fail
  go_loopg [24] 0 (fun n s24 wr => s24 = .int .i64 0 ∧ Below w2.heap.size w2 wr)
  case atStart => exact ⟨rfl, bself _ _⟩
  case round =>
    obtain ⟨rfl, hbr⟩ := hrel
    go_wp2_with fail
    go_ret
    exact ⟨rfl, on_past (on_past (on_past (bself _ _) hb1) hb2) hbr⟩

section
variable {H : Type} {enc : TypeId × Value → H} {P : Program} {w : World} {base : Nat} {spare : Nat → Bool} {held : Bool}
/-- a slice of structs of one-cell fields that came in: each field's cell -/
theorem open_slice_fields {t e : TypeId} {fs : Array Field} {fuel : Nat} {cs : List Value} {x : DataW H × List MemPlace} (ht : P.underlying t = some (.slice e)) (he : P.underlying e = some (.struct fs))
    (hone : oneCellFields P fs = true) (hC : P.cellsOf e = fs.size) (h : DataW.trod enc P w base spare held fuel t cs = some x) :
    cs = [.slice none 0 0] ∨
    ∃ (a : Addr) (len cap : Nat), cs = [.slice (some a) len cap] ∧ len ≤ cap ∧ cap ≤ maxLen ∧
      ∀ i, i < len → ∃ n : Nat, ∀ (j : Nat) (f : Field), fs[j]? = some f → ∃ (v : Value) (y : DataW H × List MemPlace), w.cell? (a.add (i * fs.size + j)) = some v ∧ DataW.trod enc P w base spare held n f.type [v] = some y := by
  rcases open_slice ht h with h0 | ⟨a, len, cap, m, n, D, Pl, hcs, hb, hl, hm, hmm, hx, hi⟩
  · exact .inl h0.1
  · refine .inr ⟨a, len, cap, hcs, hl, hm, fun i him => ?_⟩
    have him' : i < m := by rw [hmm]; split <;> omega
    obtain ⟨cs', hc, ht'⟩ := hi i him'
    rw [hC] at hc
    obtain ⟨ys, n', hn', hy, hlen, hyl, hf⟩ := DataW.trod_struct he ht'
    obtain ⟨_, hcl, hat⟩ := World.cells?_some hc
    refine ⟨n', fun j f hj => ?_⟩
    obtain ⟨ho, hk⟩ := hone_of hone j f hj
    have hjl : j < fs.size := (Array.getElem?_eq_some_iff.1 hj).1
    have hcell := hat j hjl
    have hv : cs'[j]? = some (cs'[j]'(by omega)) := List.getElem?_eq_getElem (by omega)
    have h1 := hf j f hj
    rw [ho, hk] at h1
    have hone' : (cs'.drop j).take 1 = [cs'[j]'(by omega)] := by
      rw [List.drop_eq_getElem_cons (by omega)]
      rfl
    rw [hone'] at h1
    have hys : ys[j]? = some (ys[j]'(by omega)) := List.getElem?_eq_getElem (by omega)
    refine ⟨_, _, ?_, h1.trans hys⟩
    rw [← Go.Deep.add_add, hcell, hv]
end

section
variable {H : Type} {enc : TypeId × Value → H} {w : World} {base : Nat} {spare : Nat → Bool} {held : Bool}
theorem cycles_of {r : Reach} {b0 : Nat} {v : Value} {d : DataW H} {p : List MemPlace}
    (hv : Value.okWide Try.prog w r b0 36 v) (h : DataW.Trod enc Try.prog w base spare held 36 v d p) :
    (∃ a cap, v = .slice a 0 cap) ∨ ∃ (b off len cap : Nat) (x : Nat → Cyc), v = .slice (some ⟨b, off, none⟩) len cap ∧ 0 < len ∧ b < w.heap.size ∧
      ∀ i, i < len → w.cell? ⟨b, off + i * 5, none⟩ = some (.int .i64 (x i).fit) ∧ w.cell? ⟨b, off + i * 5 + 1, none⟩ = some (.bool (x i).conf) ∧ w.cell? ⟨b, off + i * 5 + 2, none⟩ = some (.bool (x i).over) ∧
      w.cell? ⟨b, off + i * 5 + 3, none⟩ = some (.bool (x i).acc) ∧ w.cell? ⟨b, off + i * 5 + 4, none⟩ = some (.bool (x i).on) := by
  obtain ⟨a0, len, cap, rfl⟩ := okWide_slice Try.underlying36 hv
  obtain ⟨fuel, hf⟩ := h
  by_cases hlen : len = 0
  · subst hlen; exact .inl ⟨a0, cap, rfl⟩
  rcases open_slice_fields Try.underlying36 Try.underlying27 (by kernel_rfl) (by kernel_rfl) hf with hcs | ⟨a, len', cap', hcs, hl, hm, hi⟩
  · simp [Value.cells] at hcs; omega
  · simp [Value.cells] at hcs
    obtain ⟨rfl, rfl, rfl⟩ := hcs
    have key : ∀ i, i < len → ∃ x : Cyc, w.cell? (a.add (i * 5)) = some (.int .i64 x.fit) ∧ w.cell? (a.add (i * 5 + 1)) = some (.bool x.conf) ∧ w.cell? (a.add (i * 5 + 2)) = some (.bool x.over) ∧
        w.cell? (a.add (i * 5 + 3)) = some (.bool x.acc) ∧ w.cell? (a.add (i * 5 + 4)) = some (.bool x.on) := fun i h => by
      obtain ⟨n, g⟩ := hi i h
      obtain ⟨u0, y0, e0, k0⟩ := g 0 _ rfl
      obtain ⟨x0, rfl, _⟩ := int_of (k := .i64) (by kernel_rfl) k0
      obtain ⟨u1, y1, e1, k1⟩ := g 1 _ rfl
      obtain ⟨x1, rfl⟩ := bool_of (by kernel_rfl) k1
      obtain ⟨u2, y2, e2, k2⟩ := g 2 _ rfl
      obtain ⟨x2, rfl⟩ := bool_of (by kernel_rfl) k2
      obtain ⟨u3, y3, e3, k3⟩ := g 3 _ rfl
      obtain ⟨x3, rfl⟩ := bool_of (by kernel_rfl) k3
      obtain ⟨u4, y4, e4, k4⟩ := g 4 _ rfl
      obtain ⟨x4, rfl⟩ := bool_of (by kernel_rfl) k4
      exact ⟨⟨x0, x1, x2, x3, x4⟩, e0, e1, e2, e3, e4⟩
    obtain ⟨b, off, spot⟩ := a
    obtain ⟨x0, hx0, _⟩ := key 0 (by omega)
    have hspot : spot = none := by simpa [Addr.add] using World.cell?_spot hx0
    subst hspot
    have hadd : ∀ n, (⟨b, off, none⟩ : Addr).add n = ⟨b, off + n, none⟩ := fun n => by unfold Addr.add; split <;> simp_all
    have hb : b < w.heap.size := by
      have := block_lt_of_cell hx0
      simpa [hadd] using this
    have key2 : ∀ i, ∃ x : Cyc, i < len → w.cell? ⟨b, off + i * 5, none⟩ = some (.int .i64 x.fit) ∧ w.cell? ⟨b, off + i * 5 + 1, none⟩ = some (.bool x.conf) ∧ w.cell? ⟨b, off + i * 5 + 2, none⟩ = some (.bool x.over) ∧
        w.cell? ⟨b, off + i * 5 + 3, none⟩ = some (.bool x.acc) ∧ w.cell? ⟨b, off + i * 5 + 4, none⟩ = some (.bool x.on) := fun i => by
      by_cases h : i < len
      · obtain ⟨x, e0, e1, e2, e3, e4⟩ := key i h
        simp only [hadd] at e0 e1 e2 e3 e4
        exact ⟨x, fun _ => ⟨e0, by rw [Nat.add_assoc]; exact e1, by rw [Nat.add_assoc]; exact e2, by rw [Nat.add_assoc]; exact e3, by rw [Nat.add_assoc]; exact e4⟩⟩
      · exact ⟨⟨0, false, false, false, false⟩, fun h' => absurd h' h⟩
    exact .inr ⟨b, off, len, cap, fun i => Classical.choose (key2 i), rfl, by omega, hb, fun i h => Classical.choose_spec (key2 i) h⟩
end

theorem plays_walk (c : Cfg) (v : Value) (w : World)
    (hv : (∃ a cap, v = .slice a 0 cap) ∨ ∃ (b off len cap : Nat) (x : Nat → Cyc), v = .slice (some ⟨b, off, none⟩) len cap ∧ 0 < len ∧ b < w.heap.size ∧
      ∀ i, i < len → w.cell? ⟨b, off + i * 5, none⟩ = some (.int .i64 (x i).fit) ∧ w.cell? ⟨b, off + i * 5 + 1, none⟩ = some (.bool (x i).conf) ∧ w.cell? ⟨b, off + i * 5 + 2, none⟩ = some (.bool (x i).over) ∧
      w.cell? ⟨b, off + i * 5 + 3, none⟩ = some (.bool (x i).acc) ∧ w.cell? ⟨b, off + i * 5 + 4, none⟩ = some (.bool (x i).on)) :
    Calls Try.prog 5 #[c.val, v] w fun e w' => e = .returned (.bool true) ∧ Below w.heap.size w w' := by
  rcases hv with ⟨a, cap, rfl⟩ | ⟨b, off, len, cap, x, rfl, _, hb, hx⟩
  · by_cases h : c.ok
    · exact plays_none c a cap w h
    · exact plays_bad c a 0 cap w h
  · by_cases h : c.ok
    · by_cases hl : 3000 < len
      · exact plays_long c _ len cap w h hl
      · exact plays_in c b off len cap x w h h.2.2.2.2.2.2.2.2.1.2.2.1 h.2.2.2.2.2.2.2.2.1.2.2.2 (by omega) hb hx
    · exact plays_bad c _ len cap w h

end Go.Proofs.Ythlokgidkjejhaa
