/- A slice of texts that came in, opened. No condition. -/
import Derived.Test.YtfaabjohlimnlaaBo
import Derived.Test.YtfaabjohlimnlaaMs
import Derived.Deep.Slices
namespace Go.Proofs.Ytfaabjohlimnlaa
open Go.ChangeShapes Go.WideShapes Go.ChangeAt Go.RowKit Go.Deep Go.Joins
section
variable {H : Type} {enc : TypeId × Value → H} {w : World} {base : Nat} {spare : Nat → Bool} {held : Bool}

instance : Inhabited Rw := ⟨Rw.z⟩

theorem row_of_trod {fuel : Nat} {v : Value} {d : DataW H × List MemPlace}
    (h : DataW.trod enc Try.prog w base spare held fuel 22 [v] = some d) : ∃ r : Rw, v = r.v ∧ RwOk w r := by
  have hv : ∃ a len cap, v = .slice a len cap := by
    rcases open_ints Try.underlying22 Try.underlying5 (by kernel_rfl) h with ⟨hcs, _⟩ | ⟨x, l, c, zs, hcs, _⟩
    · exact ⟨none, 0, 0, by simpa using hcs⟩
    · exact ⟨some x, l, c, by simpa using hcs⟩
  obtain ⟨a, len, cap, rfl⟩ := hv
  obtain ⟨l, rfl, h1, h2, h3, h4⟩ := bytes_of_trod h
  exact ⟨⟨a, l, cap⟩, rfl, h1, h2, h3, h4⟩

theorem rows_of_trod {fuel : Nat} {a : Option Addr} {len cap : Nat} {d : DataW H × List MemPlace}
    (h : DataW.trod enc Try.prog w base spare held fuel 50 [.slice a len cap] = some d) :
    ∃ rs : List Rw, len = rs.length ∧ RdR w a rs ∧ (spare = (fun _ => true) → cap ≠ 0 → ∃ b off, a = some ⟨b, off, none⟩) ∧ rs.length ≤ cap ∧ cap ≤ maxLen := by
  rcases open_slice1 Try.underlying50 (by kernel_rfl) h with ⟨hcs, _⟩ | ⟨x, l, c, m, n, V, D, Pl, hcs, hb, hl, hm, hmm, _, hx⟩
  · simp at hcs
    obtain ⟨rfl, rfl, rfl⟩ := hcs
    exact ⟨[], rfl, ⟨by simp, by simp⟩, fun _ h => absurd rfl h, by simp, by simp⟩
  · simp at hcs
    obtain ⟨rfl, rfl, rfl⟩ := hcs
    have hlm : len ≤ m := by rw [hmm]; split <;> omega
    obtain ⟨f, hf⟩ := choose_lt (n := len) (p := fun i (r : Rw) => V i = r.v ∧ RwOk w r) (fun i hi => row_of_trod (hx i (by omega)).2)
    refine ⟨(List.range len).map f, by simp, ⟨?_, ?_⟩, ?_, by simpa using hl, hm⟩
    rotate_left 2
    · intro hs hc0
      subst hs
      simp only [if_true] at hmm
      have h00 := (hx 0 (by omega)).1
      obtain ⟨b, off, spot⟩ := x
      have hspot : spot = none := by simpa [Addr.add] using World.cell?_spot h00
      subst hspot
      exact ⟨b, off, rfl⟩
    · intro r hr
      obtain ⟨i, hi, rfl⟩ := List.mem_map.1 hr
      exact (hf i (List.mem_range.1 hi)).2
    · intro h0
      simp at h0
      have h00 := (hx 0 (by omega)).1
      obtain ⟨b, off, spot⟩ := x
      have hspot : spot = none := by simpa [Addr.add] using World.cell?_spot h00
      subst hspot
      have hadd : ∀ n, (⟨b, off, none⟩ : Addr).add n = ⟨b, off + n, none⟩ := fun n => by unfold Addr.add; split <;> simp_all
      refine ⟨b, off, rfl, ?_, fun i hi => ?_⟩
      · have := block_lt_of_cell h00
        simpa [hadd] using this
      · simp at hi
        have h1 := (hx i (by omega)).1
        rw [hadd] at h1
        rw [h1, (hf i hi).1]
        simp [List.getD, hi]

theorem rows_of {r : Reach} {b0 : Nat} {v : Value} {d : DataW H} {p : List MemPlace}
    (hv : Value.okWide Try.prog w r b0 50 v) (h : DataW.Trod enc Try.prog w base spare held 50 v d p) :
    ∃ (a : Option Addr) (rs : List Rw) (cap : Nat), v = .slice a rs.length cap ∧ RdR w a rs ∧ (spare = (fun _ => true) → cap ≠ 0 → ∃ b off, a = some ⟨b, off, none⟩) ∧ rs.length ≤ cap ∧ cap ≤ maxLen := by
  obtain ⟨a, len, cap, rfl⟩ := okWide_slice Try.underlying50 hv
  obtain ⟨fuel, hf⟩ := h
  obtain ⟨l, rfl, h1, h2, h3, h4⟩ := rows_of_trod (by simpa [Value.cells] using hf)
  exact ⟨a, l, cap, rfl, h1, h2, h3, h4⟩
end

end Go.Proofs.Ytfaabjohlimnlaa
