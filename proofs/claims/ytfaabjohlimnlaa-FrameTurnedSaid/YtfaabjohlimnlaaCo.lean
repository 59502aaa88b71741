/- A configuration that came in, opened. No condition. -/
import Derived.Test.YtfaabjohlimnlaaProg
import Derived.Test.YtfaabjohlimnlaaCfg
import Derived.Test.YtfaabjohlimnlaaLaw
namespace Go.Proofs.Ytfaabjohlimnlaa
open Go.ChangeShapes Go.WideShapes Go.ChangeAt Go.RowKit Go.Deep Go.Joins

theorem list_len14 {α : Type} {l : List α} (h : l.length = 14) : ∃ a0 a1 a2 a3 a4 a5 a6 a7 a8 a9 a10 a11 a12 a13, l = [a0, a1, a2, a3, a4, a5, a6, a7, a8, a9, a10, a11, a12, a13] := by
  match l, h with
  | [a0, a1, a2, a3, a4, a5, a6, a7, a8, a9, a10, a11, a12, a13], _ => exact ⟨a0, a1, a2, a3, a4, a5, a6, a7, a8, a9, a10, a11, a12, a13, rfl⟩
theorem list_len5 {α : Type} {l : List α} (h : l.length = 5) : ∃ a0 a1 a2 a3 a4, l = [a0, a1, a2, a3, a4] := by
  match l, h with
  | [a0, a1, a2, a3, a4], _ => exact ⟨a0, a1, a2, a3, a4, rfl⟩
theorem list_len3 {α : Type} {l : List α} (h : l.length = 3) : ∃ a0 a1 a2, l = [a0, a1, a2] := by
  match l, h with
  | [a0, a1, a2], _ => exact ⟨a0, a1, a2, rfl⟩

section
variable {H : Type} {enc : TypeId × Value → H} {w : World} {base : Nat} {spare : Nat → Bool} {held : Bool}

def allI64 (P : Program) (fs : Array Field) : Bool := fs.all fun f => match P.underlying f.type with | some (.int .i64) => true | _ => false
theorem allI64_of {P : Program} {fs : Array Field} (h : allI64 P fs = true) {j : Nat} {f : Field} (hj : fs[j]? = some f) : P.underlying f.type = some (.int .i64) := by
  unfold allI64 at h
  obtain ⟨hl, rfl⟩ := Array.getElem?_eq_some_iff.1 hj
  have h1 := (Array.all_eq_true.1 h) j hl
  split at h1
  · assumption
  · cases h1

/-- a struct of int64s by value -/
theorem open_agg_ints {P : Program} {b0 : Nat} {t : TypeId} {fs : Array Field} {v : Value} {d : DataW H} {p : List MemPlace} {r : Reach} (hs : P.underlying t = some (.struct fs)) (hone : oneCellFields P fs = true) (hC : P.cellsOf t = fs.size) (hI : allI64 P fs = true)
    (hv : Value.okWide P w r b0 t v) (h : DataW.Trod enc P w base spare held t v d p) :
    ∃ xs : List Int, v = .agg (xs.map (Value.int .i64)).toArray ∧ xs.length = fs.size ∧ ∀ x ∈ xs, (Lit.int .i64 x).wf = true := by
  obtain ⟨cs, n, rfl, hl, g⟩ := open_agg hs hone hC hv h
  have key : ∀ j, j < cs.length → ∃ x : Int, cs[j]? = some (.int .i64 x) ∧ (Lit.int .i64 x).wf = true := fun j hj => by
    obtain ⟨u, y, hu, hy⟩ := g j _ (Array.getElem?_eq_getElem (by omega : j < fs.size))
    obtain ⟨x, rfl, wx⟩ := int_of (allI64_of hI (Array.getElem?_eq_getElem (by omega : j < fs.size))) hy
    exact ⟨x, hu, wx⟩
  refine ⟨cs.map fun v => match v with | .int _ x => x | _ => 0, ?_, by simpa using hl, ?_⟩
  · congr 2
    apply List.ext_getElem?
    intro j
    by_cases hj : j < cs.length
    · obtain ⟨x, hx, _⟩ := key j hj
      simp [hx]
    · simp [List.getElem?_eq_none (by omega : cs.length ≤ j)]
  · intro x hx
    simp only [List.mem_map] at hx
    obtain ⟨u, hu, rfl⟩ := hx
    obtain ⟨j, hj, rfl⟩ := List.getElem_of_mem hu
    obtain ⟨x, hx, wx⟩ := key j hj
    rw [List.getElem?_eq_getElem hj] at hx
    simp only [Option.some.injEq] at hx
    rw [hx]; exact wx



end

end Go.Proofs.Ytfaabjohlimnlaa
