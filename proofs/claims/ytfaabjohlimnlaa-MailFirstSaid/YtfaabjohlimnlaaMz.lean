/- The walk of the law MailAfter. No condition. -/
import Derived.Test.YtfaabjohlimnlaaMg
import Derived.Test.YtfaabjohlimnlaaRo
import Derived.Outline
namespace Go.Proofs.Ytfaabjohlimnlaa
open Go.ChangeShapes Go.WideShapes Go.RowKit Go.Sort
set_option linter.unusedVariables false
set_option linter.unusedSimpArgs false

theorem RdR.left {w : World} {A : Option Addr} {p q : List Rw} (h : RdR w A (p ++ q)) : RdR w A p := by
  refine ⟨fun r hr => h.ok r (List.mem_append_left _ hr), fun h0 => ?_⟩
  obtain ⟨b, off, e, hlt, hc⟩ := h.at_ (by rw [List.length_append]; omega)
  refine ⟨b, off, e, hlt, fun i hi => ?_⟩
  rw [hc i (by rw [List.length_append]; omega)]
  simp [List.getD, List.getElem?_append, hi]
theorem RdR.right {w : World} {b off : Nat} {p q : List Rw} (h : RdR w (some ⟨b, off, none⟩) (p ++ q)) : RdR w (some ⟨b, off + p.length, none⟩) q := by
  refine ⟨fun r hr => h.ok r (List.mem_append_right _ hr), fun h0 => ?_⟩
  obtain ⟨b', off', e, hlt, hc⟩ := h.at_ (by rw [List.length_append]; omega)
  cases e
  refine ⟨_, _, rfl, hlt, fun i hi => ?_⟩
  have := hc (p.length + i) (by rw [List.length_append]; omega)
  rw [Nat.add_assoc, this]
  simp [List.getD, List.getElem?_append]
  rw [if_neg (by omega)]

set_option maxHeartbeats 1000000 in
theorem after_out (cycle at_ : Int) (A J : Option Addr) (rs : List Rw) (c : Nat) (l : List Nat) (d : Nat) (w : World) (hr : RdR w A rs) (hcl : rs.length ≤ c) (hcm : c ≤ maxLen) (hdl : l.length ≤ d) (hdm : d ≤ maxLen)
    (h : 31 < rs.length ∨ at_ < 0 ∨ (rs.length : Int) < at_ ∨ 300 < l.length) :
    Calls Try.prog 12 #[.int .i64 cycle, .slice A rs.length c, .int .i64 at_, .slice J l.length d] w fun e w' => e = .returned (.bool true) ∧ Below w.heap.size w w' := by
  have HR := Lib.hid hr; clear hr
  have HG := Lib.hid (fun w' (hb : Below w.heap.size w w') => great_any A rs c w' (HR.out.below hb) hcl hcm)
  generalize greatB rs = gb at HG
  unfold maxLen at hcm hdm
  rcases h with h | h | h | h
  all_goals
    go_enter Try.func12, Try.ntmps12
    go_wp2_with fail
    refine (mailAnchor_any _).mono ?_
    rintro e w1 ⟨rfl, hb1⟩
    go_wp2_with fail
    refine (HG.out _ hb1).mono ?_
    rintro e w2 ⟨rfl, rfl⟩
    cases gb
    all_goals
      go_wp2_with fail
      all_goals
        go_ret
        exact ⟨rfl, hb1⟩

theorem after_great (cycle at_ : Int) (A J : Option Addr) (rs : List Rw) (c : Nat) (l : List Nat) (d : Nat) (w : World) (hr : RdR w A rs) (hcl : rs.length ≤ c) (hcm : c ≤ maxLen) (hg : greatB rs = true) :
    Calls Try.prog 12 #[.int .i64 cycle, .slice A rs.length c, .int .i64 at_, .slice J l.length d] w fun e w' => e = .returned (.bool true) ∧ Below w.heap.size w w' := by
  have HR := Lib.hid hr; clear hr
  have HG := Lib.hid (fun w' (hb : Below w.heap.size w w') => great_any A rs c w' (HR.out.below hb) hcl hcm)
  rw [hg] at HG
  clear hg
  go_enter Try.func12, Try.ntmps12
  go_wp2_with fail
  refine (mailAnchor_any _).mono ?_
  rintro e w1 ⟨rfl, hb1⟩
  go_wp2_with fail
  refine (HG.out _ hb1).mono ?_
  rintro e w2 ⟨rfl, rfl⟩
  go_wp2_with fail
  go_ret
  exact ⟨rfl, hb1⟩

set_option maxHeartbeats 1000000 in
theorem after_same (cycle : Int) (A J : Option Addr) (rs : List Rw) (c n : Nat) (l : List Nat) (d : Nat) (w : World) (hr : RdR w A rs) (hcl : rs.length ≤ c) (hcm : c ≤ maxLen) (hj : RdB w J l) (hdl : l.length ≤ d) (hdm : d ≤ maxLen)
    (hcy : -9223372036854775808 ≤ cycle) (hcy' : cycle ≤ 9223372036854775807) (hg : greatB rs = false) (h31 : rs.length ≤ 31) (hn : n ≤ rs.length) (hl : l.length ≤ 300) (he : (Fr.get l).err = 0) (hs : (Fr.get l).seq = cycle % 256) :
    Calls Try.prog 12 #[.int .i64 cycle, .slice A rs.length c, .int .i64 n, .slice J l.length d] w fun e w' => e = .returned (.bool true) ∧ Below w.heap.size w w' := by
  have HR := Lib.hid hr; clear hr
  have HSq := Lib.hid (fun w => seq_any cycle w hcy hcy')
  have HG := Lib.hid (fun w' (hb : Below w.heap.size w w') => great_any A rs c w' (HR.out.below hb) hcl hcm)
  rw [hg] at HG
  have HGet := Lib.hid (fun w' (hb : Below w.heap.size w w') => get_any J l d w' (hj.below hb) hdl hdm (by omega))
  clear hg hj
  generalize Fr.get l = gg at HGet he hs
  obtain ⟨gk, gs, gv', gn⟩ := gg
  replace he : gn = 0 := he
  subst he
  replace hs : gs = cycle % 256 := hs
  have hz : (gs == cycle % 256) = true := by simpa using hs
  clear hs
  have hl' : ¬ 300 < l.length := by omega
  have h31' : ¬ 31 < rs.length := by omega
  have hn' : ¬ (rs.length < n) := by omega
  go_enter Try.func12, Try.ntmps12
  go_wp2_with fail
  refine (mailAnchor_any _).mono ?_
  rintro e w1 ⟨rfl, hb1⟩
  go_wp2_with fail
  refine (HG.out _ hb1).mono ?_
  rintro e w2 ⟨rfl, rfl⟩
  go_wp2_with fail
  refine (HGet.out _ hb1).mono ?_
  rintro e w3 ⟨rfl, hb3⟩
  unfold gv
  have HB := Lib.hid (on_past hb1 hb3)
  go_wp2_with fail
  go_quiet ((go_at_call 30; exact quiet_eq (HSq.out _)))
  go_wp2_with fail
  go_ret
  exact ⟨rfl, bdN (on_alloc HB.out _) _⟩


/-- two lists of kinds or values that are alike -/
@[go_sem] theorem eq_b6 (a b c d e f : Bool) (w : World) : (Op.equalIn 10000 52 (.agg #[.bool a, .bool b, .bool c, .bool d, .bool e, .bool f]) (.agg #[.bool a, .bool b, .bool c, .bool d, .bool e, .bool f])).run Try.prog w = .ok true w := by
  have u3 := Try.underlying4
  have a3 := Try.isAgg4
  have z3 := Try.sizeOf4
  rw [show (10000 : Nat) = 9999 + 1 from rfl, Op.equalIn]
  simp only [Sem.run_bind, run_underlying Try.underlying52, Result.andThen_ok]
  simp only [Std.Legacy.Range.forIn_eq_forIn_range', Std.Legacy.Range.size, Nat.sub_zero, Nat.add_sub_cancel, Nat.div_one, List.range'_succ, List.range'_zero, List.forIn_cons, List.forIn_nil]
  go_simp
@[go_sem] theorem eq_i6 (a b c d e f : Int) (w : World) : (Op.equalIn 10000 53 (.agg #[.int .i64 a, .int .i64 b, .int .i64 c, .int .i64 d, .int .i64 e, .int .i64 f]) (.agg #[.int .i64 a, .int .i64 b, .int .i64 c, .int .i64 d, .int .i64 e, .int .i64 f])).run Try.prog w = .ok true w := by
  have u3 := Try.underlying2
  have a3 := Try.isAgg2
  have z3 := Try.sizeOf2
  rw [show (10000 : Nat) = 9999 + 1 from rfl, Op.equalIn]
  simp only [Sem.run_bind, run_underlying Try.underlying53, Result.andThen_ok]
  simp only [Std.Legacy.Range.forIn_eq_forIn_range', Std.Legacy.Range.size, Nat.sub_zero, Nat.add_sub_cancel, Nat.div_one, List.range'_succ, List.range'_zero, List.forIn_cons, List.forIn_nil]
  go_simp

end Go.Proofs.Ytfaabjohlimnlaa
