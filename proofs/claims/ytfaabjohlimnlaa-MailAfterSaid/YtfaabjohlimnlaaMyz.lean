/- The walk of the law MailAfter, joined. No condition. -/
import Derived.Test.YtfaabjohlimnlaaMya
import Derived.Test.YtfaabjohlimnlaaMyb
import Derived.Test.YtfaabjohlimnlaaMyc
import Derived.Test.YtfaabjohlimnlaaMyd
import Derived.Test.YtfaabjohlimnlaaMye
namespace Go.Proofs.Ytfaabjohlimnlaa
open Go.ChangeShapes Go.WideShapes Go.RowKit Go.Sort
set_option linter.unusedVariables false

theorem after_walk (cycle at_ : Int) (A J : Option Addr) (rs : List Rw) (c : Nat) (l : List Nat) (d : Nat) (w : World) (hr : RdR w A rs) (hA : c ≠ 0 → ∃ b off, A = some ⟨b, off, none⟩) (hcl : rs.length ≤ c) (hcm : c ≤ maxLen) (hj : RdB w J l) (hJn : J = none → d = 0) (hdl : l.length ≤ d) (hdm : d ≤ maxLen)
    (hcy : -9223372036854775808 ≤ cycle) (hcy' : cycle ≤ 9223372036854775807) :
    Calls Try.prog 12 #[.int .i64 cycle, .slice A rs.length c, .int .i64 at_, .slice J l.length d] w fun e w' => e = .returned (.bool true) ∧ Below w.heap.size w w' := by
  cases hg : greatB rs with
  | true => exact after_great cycle at_ A J rs c l d w hr hcl hcm hg
  | false =>
    by_cases h : 31 < rs.length ∨ at_ < 0 ∨ (rs.length : Int) < at_ ∨ 300 < l.length
    · exact after_out cycle at_ A J rs c l d w hr hcl hcm hdl hdm h
    · obtain ⟨n, rfl⟩ : ∃ n : Nat, at_ = n := ⟨at_.toNat, by omega⟩
      have h31 : rs.length ≤ 31 := by omega
      have hl : l.length ≤ 300 := by omega
      have hn : n ≤ rs.length := by omega
      by_cases he : (Fr.get l).err = 0
      · by_cases hs : (Fr.get l).seq = cycle % 256
        · exact after_same cycle A J rs c n l d w hr hcl hcm hj hdl hdm hcy hcy' hg h31 hn hl he hs
        · obtain ⟨p, q, rfl, rfl⟩ : ∃ p q : List Rw, rs = p ++ q ∧ n = p.length := ⟨rs.take n, rs.drop n, by simp, by simp; omega⟩
          by_cases hc : c = 0
          · subst hc
            have h0 : (p ++ q).length = 0 := by omega
            rw [List.length_append] at h0
            obtain rfl : p = [] := List.eq_nil_of_length_eq_zero (by omega)
            obtain rfl : q = [] := List.eq_nil_of_length_eq_zero (by omega)
            exact after_otherN cycle A J l d w hr hcl hcm hj hJn hdl hdm hcy hcy' hg h31 hl he hs
          · obtain ⟨b, off, rfl⟩ := hA hc
            by_cases hpc : p.length = c
            · subst hpc
              exact after_otherF cycle b off J p q l d w hr hcl hcm hj hJn hdl hdm hcy hcy' hg h31 hl he hs
            · exact after_other cycle b off J p q c l d w hr hcl hcm hj hJn hdl hdm hcy hcy' hg h31 hl he hs (by rw [List.length_append] at hcl; omega)
      · obtain ⟨p, q, rfl, rfl⟩ : ∃ p q : List Rw, rs = p ++ q ∧ n = p.length := ⟨rs.take n, rs.drop n, by simp, by simp; omega⟩
        by_cases hc : c = 0
        · subst hc
          have h0 : (p ++ q).length = 0 := by omega
          rw [List.length_append] at h0
          obtain rfl : p = [] := List.eq_nil_of_length_eq_zero (by omega)
          obtain rfl : q = [] := List.eq_nil_of_length_eq_zero (by omega)
          exact after_badN cycle A J l d w hr hcl hcm hj hJn hdl hdm hcy hcy' hg h31 hl he
        · obtain ⟨b, off, rfl⟩ := hA hc
          by_cases hpc : p.length = c
          · subst hpc
            exact after_badF cycle b off J p q l d w hr hcl hcm hj hJn hdl hdm hcy hcy' hg h31 hl he
          · exact after_bad cycle b off J p q c l d w hr hcl hcm hj hJn hdl hdm hcy hcy' hg h31 hl he (by rw [List.length_append] at hcl; omega)

end Go.Proofs.Ytfaabjohlimnlaa
