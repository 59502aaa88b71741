/- Slices of bytes: make and copy. No condition. -/
import Derived.Test.YtfaabjohlimnlaaBy
import Derived.Laws.MakeOwn
namespace Go.Proofs.Ytfaabjohlimnlaa
open Go.ChangeShapes Go.WideShapes Go.RowKit
set_option linter.unusedVariables false
set_option linter.unusedSimpArgs false

theorem byteSize : (Try.prog.info? 5).map (·.size) = some 1 := by kernel_rfl

theorem zeros_bv (n : Nat) : List.replicate n (Value.int .u8 0) = (List.replicate n 0).map bv := by simp [bv]

/-- a row behind which the heap is as it was -/
theorem wpList_make_b {w : World} {ops : Array Oper} {rest : List Oper} {o : Oper} {a : Act} {Q : Exit → Act → World → Prop} (hgd : o.guard = none) (x y : Operand)
    (ho : o.op = Op.makeSlice 22 x y) (base l c : Nat) (L C : Int) (hx : a.eval x = .int .i64 L) (hy : a.eval y = .int .i64 C) (hL : L = (l : Int)) (hC : C = (c : Int)) (hlc : l ≤ c) (hm : c ≤ 1000000000000) (hbase : base ≤ w.heap.size)
    (h : ∀ w', Own w' base (some ⟨w.heap.size, 0, none⟩) c (List.replicate l 0) → w.grownBy w' none → wpList Try.prog ops Q rest (a.put o.dst (.slice (some ⟨w.heap.size, 0, none⟩) l c)) w') :
    wpList Try.prog ops Q (o :: rest) a w := by
  obtain ⟨i, hi, hz0, hz1, hz2⟩ := info_parts byteInfo
  subst hL hC
  refine wpList_plain hgd fun K hK => ?_
  have hrun := run_make (P := Try.prog) w 22 5 i _ Try.underlying22 hi hz0 .i64 .i64 (l : Int) (c : Int) (by omega) (by omega) (by rw [hz2]; omega) (by omega)
  simp only [Int.toNat_natCast] at hrun
  unfold Oper.wp execOp
  simp only [ho, Sem.run_bind, Sem.run_pure, Result.andThen_ok, hx, hy, hrun]
  refine hK _ _ (h _ ⟨⟨by simp, .inr ⟨w.heap.size, c, _, by simp, hbase, heap_alloc_new w _, by simpa using hlc, by simp only [maxLen]; omega, ?_, ?_⟩⟩, ?_⟩ (World.grownBy_alloc w _ none))
  · rw [hz1, size_madeCells]
  · rw [hz1, Nat.mul_one, show (Value.int IntKind.u8 0).cells = #[Value.int .u8 0] from rfl, toList_madeCells_one, List.length_replicate, Nat.mul_one, List.take_replicate, Nat.min_eq_left hlc, zeros_bv]
  · intro y hy
    rw [List.eq_of_mem_replicate hy]; decide

/-- copy over a whole row of the call's own -/
theorem wpList_copy_b {w : World} {ops : Array Oper} {rest : List Oper} {o : Oper} {a : Act} {Q : Exit → Act → World → Prop} (hgd : o.guard = none) (x y : Operand)
    (ho : o.op = .call { callee := .builtin .copy, args := #[x, y], argTypes := #[22, 22] })
    (base g c : Nat) (l : List Nat) (len : Nat) (hlen : len = l.length) (hx : a.eval x = .slice (some ⟨g, 0, none⟩) len c) (hown : Own w base (some ⟨g, 0, none⟩) c l)
    (B : Option Addr) (d : Nat) (m : List Nat) (hy : a.eval y = .slice B m.length d) (hr : RdB w B m) (hm : l.length ≤ m.length)
    (h : ∀ w' v, Own w' base (some ⟨g, 0, none⟩) c (m.take l.length) → Below base w w' → wpList Try.prog ops Q rest (a.put o.dst v) w') :
    wpList Try.prog ops Q (o :: rest) a w := by
  subst hlen
  rcases hown.row.2 with ⟨hv, hn⟩ | ⟨g', cap, cur, hv, hb, hg, h1, h2, h3, h4⟩
  · simp at hv
  · simp only [Value.slice.injEq, Option.some.injEq, Addr.mk.injEq, and_true, true_and] at hv
    obtain ⟨rfl, rfl⟩ := hv
    have hcl : ((m.take l.length).map bv).length = l.length := by simp; omega
    refine wpList_copy_splice hgd x y 22 22 ho 5 Try.underlying22 byteSize (some ⟨g, 0, none⟩) B l.length c m.length d hx hy g 0 cur.toList 5 (by simpa using hg) ((m.take l.length).map bv) (by rw [hcl]; exact (Nat.min_eq_right hm).symm) ?_ ?_ (bv_one _) base w (Below.refl _ _) hb ?_
    · intro h0
      rw [hcl] at h0
      refine ⟨rfl, ?_⟩
      obtain ⟨b, off, e, _, hc⟩ := hr.at_ (by omega)
      refine ⟨_, e, fun j v hj => ?_⟩
      have hjl : j < l.length := by
        rcases Nat.lt_or_ge j l.length with h0 | h0
        · exact h0
        · rw [List.getElem?_eq_none (by rw [hcl]; exact h0)] at hj; cases hj
      have hadd : (⟨b, off, none⟩ : Addr).add j = ⟨b, off + j, none⟩ := by unfold Addr.add; split <;> simp_all
      rw [hadd, hc j (by omega)]
      rw [List.getElem?_map, List.getElem?_take, if_pos hjl, List.getElem?_eq_getElem (by omega : j < m.length)] at hj
      simp only [Option.map_some, Option.some.injEq] at hj
      rw [← hj, List.getD, List.getElem?_eq_getElem (by omega : j < m.length)]
      rfl
    · rw [hcl, Nat.zero_add]
      have : cur.size = c * 1 := h3
      simp; omega
    · intro w' hid hbw
      have hgw := hid.out
      refine h w' _ ⟨⟨by simp, .inr ⟨g, c, _, by simp [Nat.min_eq_left hm], hb, hgw, by simp; omega, h2, ?_, ?_⟩⟩, fun z hz => hr.lt z (List.mem_of_mem_take hz)⟩ hbw
      · rw [Array.size, length_splice _ _ _ (by rw [hcl]; simp; omega)]
        simpa using h3
      · simp only [splice, List.take_zero, List.nil_append, Nat.zero_add, Nat.mul_one]
        rw [List.take_left' (by simp)]

end Go.Proofs.Ytfaabjohlimnlaa
