/- The walks of the package crc: more, Go, Sum. No condition. -/
import Derived.Test.YtfaabjohlimnlaaProg
import Derived.Test.YtfaabjohlimnlaaKit
import Derived.Test.YtfaabjohlimnlaaCd
import Derived.Deep.LoopGhost
import Derived.Laws.BitsAllLaws
namespace Go.Proofs.Ytfaabjohlimnlaa
open Go.ChangeShapes Go.WideShapes Go.RowKit
set_option linter.unusedVariables false

theorem v_lt (x : Crc.V) : x.toNat < 65536 := x.isLt

theorem xor_v (x y : Crc.V) : bits .xor .u16 (x.toNat : Int) (y.toNat : Int) = ((x ^^^ y).toNat : Int) := by
  rw [u16_xor_nat _ _ (v_lt x) (v_lt y), BitVec.toNat_xor]

theorem and_v (x : Crc.V) : (bits .and .u16 (x.toNat : Int) 32768 != 0) = x.msb := by
  have h := u16_and_nat x.toNat 32768 (v_lt x) (by omega)
  have e : ((32768 : Nat) : Int) = 32768 := rfl
  rw [e] at h
  rw [h, BitVec.msb_eq_getLsbD_last]
  have h2 : x.toNat &&& 32768 = if x.toNat.testBit 15 then 32768 else 0 := by
    apply Nat.eq_of_testBit_eq
    intro i
    have t : ∀ i, Nat.testBit 32768 i = decide (15 = i) := fun i => by rw [show (32768 : Nat) = 2 ^ 15 by rfl, Nat.testBit_two_pow]
    rw [Nat.testBit_and, t]
    by_cases hi : 15 = i
    · subst hi
      cases x.toNat.testBit 15 <;> simp [t]
    · cases x.toNat.testBit 15 <;> simp [hi, t]
  rw [h2]
  show _ = x.toNat.testBit 15
  cases x.toNat.testBit 15 <;> simp

theorem dbl_v (x : Crc.V) : IntKind.u16.wrap ((x.toNat : Int) * 2) = ((x <<< 1).toNat : Int) := by
  rw [IntKind.wrap_u16, BitVec.toNat_shiftLeft, Nat.shiftLeft_eq]
  omega

theorem byte_v (b : Nat) (hb : b < 256) : ((b : Int) * 256) = ((BitVec.ofNat 16 (b * 256)).toNat : Int) := by
  rw [BitVec.toNat_ofNat, Nat.mod_eq_of_lt (by omega)]
  omega

theorem more_any (s : Crc.V) (b : Nat) (w : World) (hb : b < 256) :
    Calls Try.prog 34 #[.int .u16 s.toNat, .int .u8 b] w fun e w' => e = .returned (.int .u16 (Crc.more s b).toNat) ∧ w = w' := by
  have hs := v_lt s
  go_enter Try.func34, Try.ntmps34
  go_wp2
  rw [byte_v b hb, xor_v]
  generalize hy : s ^^^ BitVec.ofNat 16 (b * 256) = y
  have HY := Lib.hid hy; clear hy
  go_loop [0, 10] (fun s0 i => ∃ (k : Nat), k ≤ 8 ∧ i = .int .i64 k ∧ s0 = .int .u16 (Crc.stpN k y).toNat) (fun _ i => 8 - (intOf i).toNat)
  case atStart => exact ⟨0, by omega, rfl, rfl⟩
  case round =>
    obtain ⟨k, hk, rfl, rfl⟩ := hrel
    by_cases hlt : k < 8
    · have hstep := Lib.hid (Crc.stpN_succ k y)
      generalize Crc.stpN k y = x at hstep
      have hx := v_lt x
      have ha := and_v x
      have HX := Lib.hid (xor_v (x <<< 1) Crc.P)
      have HD := Lib.hid (dbl_v x)
      cases hm : x.msb
      · rw [hm] at ha
        have HM := Lib.hid hm; clear hm
        go_wp2
        go_round
        case rel => exact ⟨k + 1, by omega, by go_num, by rw [HD.out, hstep.out]; unfold Crc.stp; rw [HM.out]; rfl⟩
        case measure => simp [intOf]; omega
      · rw [hm] at ha
        have HM := Lib.hid hm; clear hm
        go_wp2
        go_round
        case rel => exact ⟨k + 1, by omega, by go_num, by rw [HD.out, hstep.out]; unfold Crc.stp; rw [HM.out]; exact congrArg (Value.int IntKind.u16) HX.out⟩
        case measure => simp [intOf]; omega
    · obtain rfl : k = 8 := by omega
      go_wp2
      go_ret
      exact ⟨ret_int (by show _ = ((Crc.stpN 8 (s ^^^ BitVec.ofNat 16 (b * 256))).toNat : Int); rw [HY.out]), rfl⟩

/-- A slice that reads as these bytes. -/
structure RdB (w : World) (a : Option Addr) (l : List Nat) : Prop where
  lt : ∀ x ∈ l, x < 256
  at_ : 0 < l.length → ∃ b off, a = some ⟨b, off, none⟩ ∧ b < w.heap.size ∧ ∀ i, i < l.length → w.cell? ⟨b, off + i, none⟩ = some (.int .u8 (l.getD i 0 : Nat))

theorem getD_lt256 {l : List Nat} (h : ∀ x ∈ l, x < 256) (i : Nat) : l.getD i 0 < 256 := by
  rcases Nat.lt_or_ge i l.length with hi | hi
  · rw [List.getD, List.getElem?_eq_getElem hi]; exact h _ (List.getElem_mem hi)
  · rw [List.getD, List.getElem?_eq_none hi]; decide

theorem take_snoc {l : List Nat} {k : Nat} (h : k < l.length) : l.take (k + 1) = l.take k ++ [l.getD k 0] := by
  rw [List.take_succ_eq_append_getElem h, List.getD, List.getElem?_eq_getElem h]; rfl

theorem go_any (s : Crc.V) (a : Option Addr) (l : List Nat) (cap : Nat) (w : World) (hl : RdB w a l) (hn : l.length ≤ 1000000000000) :
    Calls Try.prog 18 #[.int .u16 s.toNat, .slice a l.length cap] w fun e w' => e = .returned (.int .u16 (Crc.go s l).toNat) ∧ w = w' := by
  have HL := Lib.hid hl; clear hl
  go_enter Try.func18, Try.ntmps18
  go_wp2
  go_loop [0, 9] (fun s0 i => ∃ (k : Nat), k ≤ l.length ∧ i = .int .i64 k ∧ s0 = .int .u16 (Crc.go s (l.take k)).toNat) (fun _ i => l.length - (intOf i).toNat)
  case atStart => exact ⟨0, by omega, rfl, rfl⟩
  case round =>
    obtain ⟨k, hk, rfl, rfl⟩ := hrel
    by_cases hlt : k < l.length
    · obtain ⟨b, off, rfl, hb, hc⟩ := HL.out.at_ (by omega)
      have h1 := hc k hlt
      have h2 := getD_lt256 HL.out.lt k
      have HS := Lib.hid (congrArg (Crc.go s) (take_snoc hlt))
      clear hc
      generalize l.getD k 0 = c at h1 h2 HS
      generalize hx : Crc.go s (l.take k) = x
      have HX := Lib.hid hx; clear hx
      go_wp2_with (go_at_call 34; refine (more_any x c _ h2).mono ?_; rintro e w' ⟨rfl, rfl⟩)
      go_round
      case rel => exact ⟨k + 1, by omega, by go_num, by rw [HS.out, Crc.go_snoc, HX.out]⟩
      case measure => simp [intOf]; omega
    · obtain rfl : k = l.length := by omega
      go_wp2
      go_ret
      exact ⟨rfl, rfl⟩

theorem sum_any (a : Option Addr) (l : List Nat) (cap : Nat) (w : World) (hl : RdB w a l) (hn : l.length ≤ 1000000000000) :
    Calls Try.prog 16 #[.slice a l.length cap] w fun e w' => e = .returned (.int .u16 (Crc.sum l).toNat) ∧ w = w' := by
  have HL := Lib.hid hl; clear hl
  go_enter Try.func16, Try.ntmps16
  go_wp2_with fail
  refine (go_any 65535#16 a l cap _ HL.out hn).mono ?_
  rintro e w' ⟨rfl, rfl⟩
  go_wp2_with fail
  go_ret
  exact ⟨rfl, rfl⟩

end Go.Proofs.Ytfaabjohlimnlaa
