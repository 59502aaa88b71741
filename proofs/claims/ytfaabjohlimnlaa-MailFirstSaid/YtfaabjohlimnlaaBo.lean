/- A slice of bytes that came in, opened. No condition. -/
import Derived.Test.YtfaabjohlimnlaaBy
import Derived.Test.YtfaabjohlimnlaaLaw
namespace Go.Proofs.Ytfaabjohlimnlaa
open Go.ChangeShapes Go.WideShapes Go.ChangeAt Go.RowKit Go.Deep Go.Joins
section
variable {H : Type} {enc : TypeId × Value → H} {w : World} {base : Nat} {spare : Nat → Bool} {held : Bool}

theorem bytes_of_trod {fuel : Nat} {a : Option Addr} {len cap : Nat} {d : DataW H × List MemPlace}
    (h : DataW.trod enc Try.prog w base spare held fuel 22 [.slice a len cap] = some d) :
    ∃ l : List Nat, len = l.length ∧ RdB w a l ∧ (a = none → cap = 0) ∧ l.length ≤ cap ∧ cap ≤ maxLen := by
  rcases open_ints Try.underlying22 Try.underlying5 (by kernel_rfl) h with ⟨hcs, _⟩ | ⟨x, l, c, zs, hcs, _, hl, hm, hz, _, hcell, hwz⟩
  · simp at hcs
    obtain ⟨rfl, rfl, rfl⟩ := hcs
    exact ⟨[], rfl, RdB.nil w none, fun _ => rfl, by simp, by simp⟩
  · simp at hcs
    obtain ⟨rfl, rfl, rfl⟩ := hcs
    have hlt : ∀ i, i < zs.length → 0 ≤ zs.getD i 0 ∧ zs.getD i 0 < 256 := fun i hi => by
      have hw := hwz (zs.getD i 0) (by rw [List.getD, List.getElem?_eq_getElem hi]; exact List.getElem_mem hi)
      have := bounds_u8 hw
      omega
    have hz2 : len ≤ zs.length := by rw [hz]; split <;> omega
    refine ⟨(zs.take len).map Int.toNat, by simp; omega, ⟨?_, ?_⟩, by simp, by simp; omega, hm⟩
    · intro y hy
      simp only [List.mem_map] at hy
      obtain ⟨z, hz3, rfl⟩ := hy
      obtain ⟨i, hi, rfl⟩ := List.getElem_of_mem hz3
      have hi' : i < zs.length := by rw [List.length_take] at hi; omega
      have := hlt i hi'
      rw [List.getElem_take]
      rw [List.getD, List.getElem?_eq_getElem hi'] at this
      simp at this
      omega
    · intro h0
      simp at h0
      have h00 := hcell 0 (by omega)
      obtain ⟨b, off, spot⟩ := x
      have hspot : spot = none := by simpa [Addr.add] using World.cell?_spot h00
      subst hspot
      have hadd : ∀ n, (⟨b, off, none⟩ : Addr).add n = ⟨b, off + n, none⟩ := fun n => by unfold Addr.add; split <;> simp_all
      refine ⟨b, off, rfl, ?_, fun i hi => ?_⟩
      · have := block_lt_of_cell h00
        simpa [hadd] using this
      · simp at hi
        have h1 := hcell i (by omega)
        rw [hadd] at h1
        rw [h1]
        have h2 := hlt i (by omega)
        simp only [List.getD, List.getElem?_map, List.getElem?_take, show i < len by omega, if_pos]
        rw [List.getElem?_eq_getElem (by omega : i < zs.length)]
        rw [List.getD, List.getElem?_eq_getElem (by omega : i < zs.length)] at h2
        simp at h2 ⊢
        omega

theorem bytes_of {r : Reach} {b0 : Nat} {v : Value} {d : DataW H} {p : List MemPlace}
    (hv : Value.okWide Try.prog w r b0 22 v) (h : DataW.Trod enc Try.prog w base spare held 22 v d p) :
    ∃ (a : Option Addr) (l : List Nat) (cap : Nat), v = .slice a l.length cap ∧ RdB w a l ∧ (a = none → cap = 0) ∧ l.length ≤ cap ∧ cap ≤ maxLen := by
  obtain ⟨a, len, cap, rfl⟩ := okWide_slice Try.underlying22 hv
  obtain ⟨fuel, hf⟩ := h
  obtain ⟨l, rfl, h1, h2, h3, h4⟩ := bytes_of_trod (by simpa [Value.cells] using hf)
  exact ⟨a, l, cap, rfl, h1, h2, h3, h4⟩
end

end Go.Proofs.Ytfaabjohlimnlaa
