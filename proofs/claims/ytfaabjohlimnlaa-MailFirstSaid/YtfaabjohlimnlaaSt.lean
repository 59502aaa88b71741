/- Bytes as strings. No condition. -/
import Derived.Test.YtfaabjohlimnlaaBz
import Derived.Laws.BytesArg
namespace Go.Proofs.Ytfaabjohlimnlaa
open Go.ChangeShapes Go.WideShapes Go.RowKit
set_option linter.unusedVariables false

/-- bytes as a string -/
def str (l : List Nat) : ByteArray := strOfNums (l.map fun n : Nat => (n : Int))

theorem conv_b {w : World} {a : Option Addr} {l : List Nat} {c : Nat} (h : RdB w a l) :
    (convert 22 9 (.slice a l.length c)).run Try.prog w = .ok (.string (str l)) w := by
  by_cases h0 : 0 < l.length
  · obtain ⟨b, off, rfl, _, hc⟩ := h.at_ h0
    refine run_convert_bytes_arg (P := Try.prog) (w := w) 22 5 Try.underlying22 Try.underlying5 b off l.length c (l.map fun n : Nat => (n : Int)) (by simp) ?_ 9 Try.underlying9
    intro i hi
    rw [hc i (by simpa using hi)]
    have hi' : i < l.length := by simpa using hi
    simp [List.getD, List.getElem?_eq_getElem hi']
  · have : l = [] := List.eq_nil_of_length_eq_zero (by omega)
    subst this
    cases a with
    | none => exact run_convert_bytes_nil (P := Try.prog) (w := w) 22 5 Try.underlying22 Try.underlying5 _ _ 9 Try.underlying9
    | some ad =>
      rw [run_convert_bytes_string w 22 9 5 (some ad) _ c Try.underlying22 Try.underlying5 Try.underlying9]
      show (Conv.bytesToString (.slice (some ad) 0 c)).run Try.prog w = _
      rw [run_bytesToString w ad 0 c [] (run_loadCells_list (P := Try.prog) w ad [] (by simp))]
      rfl

theorem str_toList (l : List Nat) : (str l).toList = l.map UInt8.ofNat := by
  rw [ByteArray.toList_eq]
  unfold str
  rw [strOfNums_data]
  simp

theorem str_inj {l m : List Nat} (hl : ∀ x ∈ l, x < 256) (hm : ∀ x ∈ m, x < 256) (h : (str l).toList = (str m).toList) : l = m := by
  rw [str_toList, str_toList] at h
  have h2 := congrArg (List.map UInt8.toNat) h
  rw [List.map_map, List.map_map] at h2
  have e : ∀ k : List Nat, (∀ x ∈ k, x < 256) → List.map (UInt8.toNat ∘ UInt8.ofNat) k = k := by
    intro k hk
    conv => rhs; rw [← List.map_id k]
    apply List.map_congr_left
    intro x hx
    have := hk x hx
    simp; omega
  rw [e l hl, e m hm] at h2
  exact h2

theorem str_beq {l m : List Nat} (hl : ∀ x ∈ l, x < 256) (hm : ∀ x ∈ m, x < 256) : ((str l).toList == (str m).toList) = decide (l = m) := by
  by_cases h : l = m
  · subst h; simp
  · have : ¬ (str l).toList = (str m).toList := fun e => h (str_inj hl hm e)
    simp [h, this]

end Go.Proofs.Ytfaabjohlimnlaa
