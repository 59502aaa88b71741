/- Structs and arrays of many cells, stored and loaded whole. No condition. -/
import Derived.Test.YtfaabjohlimnlaaKit
import Derived.Deep.MidRow
import Derived.StillTail
namespace Go.Proofs.Ytfaabjohlimnlaa
open Go Go.RowKit
set_option linter.unusedVariables false
set_option linter.unusedSimpArgs false

section
variable {P : Program}
/-- a result that lies in a cell's block -/
theorem results_cell {fn : Func} {k : Nat} {T : TypeId} {tmps : Array Value} {w : World} (hr : fn.results = #[.cell k T]) (b o : Nat) (hk : tmps.getD k undef = .pointer (some ⟨b, o, none⟩)) (cs : List Value) (d : TypeDesc) (hc : w.rangeAt b o cs)
    (hu : P.underlying T = some d) (hd : d.isRow = true) (hi : (P.info? T).map (·.size) = some cs.length) : (results fn tmps).run P w = .ok (.agg cs.toArray) w := by
  have h := run_loadVar_mid (P := P) w b o T cs d hc hu hd hi
  have hk' : tmps[k]?.getD undef = .pointer (some ⟨b, o, none⟩) := by simpa using hk
  unfold results
  rw [hr]
  simp [hk', asAddr, Sem.run_bind, Sem.run_pure, h]

theorem below_setCells {B : Nat} {w : World} (b : Nat) (hb : B ≤ b) : ∀ (vs : List Value) (o : Nat) (w1 : World), Below B w w1 → Below B w (w1.setCells b o vs)
  | [], _, _, h => h
  | v :: r, o, w1, h => below_setCells b hb r (o + 1) _ (Below.setCell (p := ⟨b, o, none⟩) h hb v)
theorem size_setCells (b : Nat) : ∀ (vs : List Value) (o : Nat) (w1 : World), (w1.setCells b o vs).heap.size = w1.heap.size
  | [], _, _ => rfl
  | v :: r, o, w1 => (size_setCells b r (o + 1) _).trans (by simp)
theorem there_below {w w' : World} {b o n B : Nat} (h : w.there b o n) (hb : b < B) (hw : Below B w w') : w'.there b o n := fun j hj => by
  obtain ⟨h1, h2⟩ := h j hj
  exact ⟨by rw [hw.cell (p := ⟨b, o + j, none⟩) hb]; exact h1, (hw.frozen (p := ⟨b, o + j, none⟩) hb).trans h2⟩
theorem range_below {w w' : World} {b o B : Nat} {cs : List Value} (h : w.rangeAt b o cs) (hb : b < B) (hw : Below B w w') : w'.rangeAt b o cs := fun j v hj => (hw.cell (p := ⟨b, o + j, none⟩) hb).trans (h j v hj)
theorem there_alloc_new (w : World) (cs : Array Value) (T : TypeId) (n : Nat) (hn : n ≤ cs.size) (H : Nat) (hH : w.heap.size = H) : (w.alloc (.cells cs T)).there H 0 n := fun j hj => by
  subst hH
  refine ⟨?_, by simp⟩
  rw [World.cell?_alloc_new, Nat.zero_add, Array.getElem?_eq_getElem (by omega)]; rfl
theorem range_alloc_new (w : World) (cs : List Value) (T : TypeId) (H : Nat) (hH : w.heap.size = H) : (w.alloc (.cells cs.toArray T)).rangeAt H 0 cs := fun j v hj => by
  subst hH
  rw [World.cell?_alloc_new, Nat.zero_add]; simpa using hj
/-- a store over the whole of a fresh block -/
theorem setCells_new (w : World) (T : TypeId) : ∀ (vs : List Value) (pre suf : List Value), suf.length = vs.length → (w.alloc (.cells (pre ++ suf).toArray T)).setCells w.heap.size pre.length vs = w.alloc (.cells (pre ++ vs).toArray T)
  | [], pre, suf, h => by
    have : suf = [] := List.eq_nil_of_length_eq_zero h
    subst this; rfl
  | v :: r, pre, [], h => by simp at h
  | v :: r, pre, u :: suf, h => by
    show (World.setCell _ ⟨w.heap.size, pre.length, none⟩ v).setCells w.heap.size (pre.length + 1) r = _
    rw [World.setCell_alloc_at _ _ _ _ _ rfl]
    have e : ((pre ++ u :: suf).toArray.setIfInBounds pre.length v) = ((pre ++ [v]) ++ suf).toArray := by
      simp
    rw [e]
    have := setCells_new w T r (pre ++ [v]) suf (by simpa using h)
    rw [List.length_append, List.length_singleton] at this
    rw [this]
    simp
theorem wpList_store_new {ops : Array Oper} {rest : List Oper} {op : Oper} {a : Act} {w : World} {Q : Exit → Act → World → Prop} (hgd : op.guard = none) (ty : TypeId) (x y : Operand) (ho : op.op = .store ty x y)
    (T : TypeId) (zs cs : List Value) (hx : a.eval x = .pointer (some ⟨w.heap.size, 0, none⟩)) (hy : a.eval y = .agg cs.toArray) (hz : zs.length = cs.length)
    (hi : (P.info? ty).map (·.size) = some cs.length) (h1 : cs.toArray.all (·.oneCell') = true)
    (h : wpList P ops Q rest (a.put op.dst undef) (w.alloc (.cells cs.toArray T))) : wpList P ops Q (op :: rest) a (w.alloc (.cells zs.toArray T)) := by
  refine wpList_store_mid hgd ty x y ho w.heap.size 0 cs.toArray hx hy (there_alloc_new w _ _ _ (by simp [hz]) _ rfl) (by simpa using hi) h1 ?_
  have := setCells_new w T cs [] zs hz
  simp only [List.nil_append, List.length_nil] at this
  rw [this]
  exact h
end

end Go.Proofs.Ytfaabjohlimnlaa
