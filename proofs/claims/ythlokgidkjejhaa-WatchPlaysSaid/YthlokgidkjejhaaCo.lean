/- A configuration that came in, opened. No condition. -/
import Derived.Test.YthlokgidkjejhaaProg
import Derived.Test.YthlokgidkjejhaaCfg
import Derived.Test.YthlokgidkjejhaaLaw
namespace Go.Proofs.Ythlokgidkjejhaa
open Go.ChangeShapes Go.WideShapes Go.ChangeAt Go.RowKit Go.Deep Go.Joins

theorem list_len14 {α : Type} {l : List α} (h : l.length = 14) : ∃ a0 a1 a2 a3 a4 a5 a6 a7 a8 a9 a10 a11 a12 a13, l = [a0, a1, a2, a3, a4, a5, a6, a7, a8, a9, a10, a11, a12, a13] := by
  match l, h with
  | [a0, a1, a2, a3, a4, a5, a6, a7, a8, a9, a10, a11, a12, a13], _ => exact ⟨a0, a1, a2, a3, a4, a5, a6, a7, a8, a9, a10, a11, a12, a13, rfl⟩
theorem list_len5 {α : Type} {l : List α} (h : l.length = 5) : ∃ a0 a1 a2 a3 a4, l = [a0, a1, a2, a3, a4] := by
  match l, h with
  | [a0, a1, a2, a3, a4], _ => exact ⟨a0, a1, a2, a3, a4, rfl⟩
theorem list_len3 {α : Type} {l : List α} (h : l.length = 3) : ∃ a0 a1 a2, l = [a0, a1, a2] := by
  match l, h with
  | [a0, a1, a2], _ => exact ⟨a0, a1, a2, rfl⟩

section
variable {H : Type} {enc : TypeId × Value → H} {w : World} {base : Nat} {spare : Nat → Bool} {held : Bool}

def allI64 (P : Program) (fs : Array Field) : Bool := fs.all fun f => match P.underlying f.type with | some (.int .i64) => true | _ => false
theorem allI64_of {P : Program} {fs : Array Field} (h : allI64 P fs = true) {j : Nat} {f : Field} (hj : fs[j]? = some f) : P.underlying f.type = some (.int .i64) := by
  unfold allI64 at h
  obtain ⟨hl, rfl⟩ := Array.getElem?_eq_some_iff.1 hj
  have h1 := (Array.all_eq_true.1 h) j hl
  split at h1
  · assumption
  · cases h1

/-- a struct of int64s by value -/
theorem open_agg_ints {P : Program} {b0 : Nat} {t : TypeId} {fs : Array Field} {v : Value} {d : DataW H} {p : List MemPlace} {r : Reach} (hs : P.underlying t = some (.struct fs)) (hone : oneCellFields P fs = true) (hC : P.cellsOf t = fs.size) (hI : allI64 P fs = true)
    (hv : Value.okWide P w r b0 t v) (h : DataW.Trod enc P w base spare held t v d p) :
    ∃ xs : List Int, v = .agg (xs.map (Value.int .i64)).toArray ∧ xs.length = fs.size ∧ ∀ x ∈ xs, (Lit.int .i64 x).wf = true := by
  obtain ⟨cs, n, rfl, hl, g⟩ := open_agg hs hone hC hv h
  have key : ∀ j, j < cs.length → ∃ x : Int, cs[j]? = some (.int .i64 x) ∧ (Lit.int .i64 x).wf = true := fun j hj => by
    obtain ⟨u, y, hu, hy⟩ := g j _ (Array.getElem?_eq_getElem (by omega : j < fs.size))
    obtain ⟨x, rfl, wx⟩ := int_of (allI64_of hI (Array.getElem?_eq_getElem (by omega : j < fs.size))) hy
    exact ⟨x, hu, wx⟩
  refine ⟨cs.map fun v => match v with | .int _ x => x | _ => 0, ?_, by simpa using hl, ?_⟩
  · congr 2
    apply List.ext_getElem?
    intro j
    by_cases hj : j < cs.length
    · obtain ⟨x, hx, _⟩ := key j hj
      simp [hx]
    · simp [List.getElem?_eq_none (by omega : cs.length ≤ j)]
  · intro x hx
    simp only [List.mem_map] at hx
    obtain ⟨u, hu, rfl⟩ := hx
    obtain ⟨j, hj, rfl⟩ := List.getElem_of_mem hu
    obtain ⟨x, hx, wx⟩ := key j hj
    rw [List.getElem?_eq_getElem hj] at hx
    simp only [Option.some.injEq] at hx
    rw [hx]; exact wx

theorem cfg_of {b0 : Nat} {v : Value} {d : DataW H} {p : List MemPlace} {r : Reach}
    (hv : Value.okWide Try.prog w r b0 23 v) (h : DataW.Trod enc Try.prog w base spare held 23 v d p) : ∃ c : Cfg, v = c.val := by
  obtain ⟨xs, rfl, hl, _⟩ := open_agg_ints Try.underlying23 (by kernel_rfl) (by kernel_rfl) (by kernel_rfl) hv h
  obtain ⟨x0, x1, x2, x3, x4, x5, x6, x7, x8, x9, x10, x11, x12, x13, rfl⟩ := list_len14 hl
  exact ⟨⟨x0, x1, x2, x3, x4, x5, x6, x7, x8, x9, x10, x11, x12, x13⟩, rfl⟩

theorem watch_of {b0 : Nat} {v : Value} {d : DataW H} {p : List MemPlace} {r : Reach} (hv : Value.okWide Try.prog w r b0 25 v) (h : DataW.Trod enc Try.prog w base spare held 25 v d p) : ∃ (s r : Int) (f : Bool), v = .agg #[.int .i64 s, .int .i64 r, .bool f] := by
  obtain ⟨cs, n, rfl, hl, g⟩ := open_agg Try.underlying25 (by kernel_rfl) (by kernel_rfl) hv h
  obtain ⟨a0, a1, a2, rfl⟩ := list_len3 hl
  obtain ⟨u0, y0, e0, k0⟩ := g 0 _ rfl
  obtain ⟨x0, rfl, _⟩ := int_of (k := .i64) (by kernel_rfl) k0
  obtain ⟨u1, y1, e1, k1⟩ := g 1 _ rfl
  obtain ⟨x1, rfl, _⟩ := int_of (k := .i64) (by kernel_rfl) k1
  obtain ⟨u2, y2, e2, k2⟩ := g 2 _ rfl
  obtain ⟨x2, rfl⟩ := bool_of (by kernel_rfl) k2
  simp at e0 e1 e2
  subst e0 e1 e2
  exact ⟨x0, x1, x2, rfl⟩

theorem cycle_of {b0 : Nat} {v : Value} {d : DataW H} {p : List MemPlace} {r : Reach} (hv : Value.okWide Try.prog w r b0 27 v) (h : DataW.Trod enc Try.prog w base spare held 27 v d p) : ∃ (x : Int) (b c d e : Bool), v = .agg #[.int .i64 x, .bool b, .bool c, .bool d, .bool e] := by
  obtain ⟨cs, n, rfl, hl, g⟩ := open_agg Try.underlying27 (by kernel_rfl) (by kernel_rfl) hv h
  obtain ⟨a0, a1, a2, a3, a4, rfl⟩ := list_len5 hl
  obtain ⟨u0, y0, e0, k0⟩ := g 0 _ rfl
  obtain ⟨x0, rfl, _⟩ := int_of (k := .i64) (by kernel_rfl) k0
  obtain ⟨u1, y1, e1, k1⟩ := g 1 _ rfl
  obtain ⟨x1, rfl⟩ := bool_of (by kernel_rfl) k1
  obtain ⟨u2, y2, e2, k2⟩ := g 2 _ rfl
  obtain ⟨x2, rfl⟩ := bool_of (by kernel_rfl) k2
  obtain ⟨u3, y3, e3, k3⟩ := g 3 _ rfl
  obtain ⟨x3, rfl⟩ := bool_of (by kernel_rfl) k3
  obtain ⟨u4, y4, e4, k4⟩ := g 4 _ rfl
  obtain ⟨x4, rfl⟩ := bool_of (by kernel_rfl) k4
  simp at e0 e1 e2 e3 e4
  subst e0 e1 e2 e3 e4
  exact ⟨x0, x1, x2, x3, x4, rfl⟩
end

end Go.Proofs.Ythlokgidkjejhaa
