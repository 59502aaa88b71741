/- The frames' anchor and the walk of the law FrameApart. No condition. -/
import Derived.Test.YtfaabjohlimnlaaFx
import Derived.Test.YtfaabjohlimnlaaSt
import Derived.Laws.StructEq
namespace Go.Proofs.Ytfaabjohlimnlaa
open Go.ChangeShapes Go.WideShapes Go.RowKit Go.Sort
set_option linter.unusedVariables false
set_option linter.unusedSimpArgs false

/-- a frame that may be is put -/
theorem put_good (k s v : Int) (w : World) (h0 : Fr.sz k ≠ 0) (h1 : Fr.ok k s v) (hv : -9223372036854775808 ≤ v) (hv' : v ≤ 9223372036854775807) :
    Calls Try.prog 22 #[.agg #[.int .i64 k, .int .i64 s, .int .i64 v]] w fun e w' => ∃ A c, e = .returned (.tuple #[.slice A (Fr.bytes k s v).length c, .int .i64 0]) ∧ Own w' w.heap.size A c (Fr.bytes k s v) ∧ Below w.heap.size w w' := by
  refine (put_any k s v w hv hv').mono ?_
  rintro e w' ⟨hb, ⟨h, _⟩ | ⟨_, h, _⟩ | ⟨_, _, A, c, he, ho⟩⟩
  · exact absurd h h0
  · exact absurd h1 h
  · exact ⟨A, c, he, ho, hb⟩
/-- one that may not be isn't -/
theorem put_bad (k s v : Int) (w : World) (h : ¬ (Fr.sz k ≠ 0 ∧ Fr.ok k s v)) (hv : -9223372036854775808 ≤ v) (hv' : v ≤ 9223372036854775807) :
    Calls Try.prog 22 #[.agg #[.int .i64 k, .int .i64 s, .int .i64 v]] w fun e w' => ∃ n : Int, (n != 0) = true ∧ (n == 0) = false ∧ e = .returned (.tuple #[.slice none 0 0, .int .i64 n]) ∧ Below w.heap.size w w' := by
  refine (put_any k s v w hv hv').mono ?_
  rintro e w' ⟨hb, ⟨_, he⟩ | ⟨_, _, he⟩ | ⟨h0, h1, _⟩⟩
  · exact ⟨30, rfl, rfl, he, hb⟩
  · exact ⟨10, rfl, rfl, he, hb⟩
  · exact absurd ⟨h0, h1⟩ h

theorem anchorBytes : Fr.bytes 1 7 258 = [1, 7, 2, 1, 2] ++ [(Crc.sum [1, 7, 2, 1, 2]).toNat / 256, (Crc.sum [1, 7, 2, 1, 2]).toNat % 256] := by
  have h : Fr.enc 1 7 258 = [1, 7, 2, 1, 2] := by decide
  unfold Fr.bytes
  rw [h]
theorem anchorLen : (Fr.bytes 1 7 258).length = 7 := by rw [anchorBytes]; simp
theorem anchorTake : (Fr.bytes 1 7 258).take 5 = [1, 7, 2, 1, 2] := by rw [anchorBytes]; simp
theorem anchorOk : Fr.ok 1 7 258 := by
  refine ⟨by decide, fun _ => by decide, fun h => ?_⟩
  exact absurd h (by decide)

theorem frameAnchor_any (w : World) : Calls Try.prog 21 #[] w fun e w' => e = .returned (.bool true) ∧ Below w.heap.size w w' := by
  go_enter Try.func21, Try.ntmps21
  go_wp2_with fail
  refine (put_good 1 7 258 _ (by decide) anchorOk (by decide) (by decide)).mono ?_
  rintro e w1 ⟨A, c, rfl, ho, hb⟩
  have hcap := ho.cap
  have hrd := ho.rd.take 5
  rw [anchorTake] at hrd
  rw [anchorLen] at hcap ⊢
  obtain ⟨hc1, hc2⟩ := hcap
  have k1 : (convert 22 9 (.slice A 5 c)).run Try.prog w1 = .ok (.string (str [1, 7, 2, 1, 2])) w1 := conv_b (l := [1, 7, 2, 1, 2]) (c := c) hrd
  have k2 := str_toList [1, 7, 2, 1, 2]
  clear ho hrd
  go_wp2_with fail
  go_ret
  refine ⟨?_, hb⟩
  first | rfl | (rw [k2]; rfl)

end Go.Proofs.Ytfaabjohlimnlaa
