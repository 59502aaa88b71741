/- Slices of bytes: those that came in, and those that the call made; append, make, copy over them. No condition. -/
import Derived.Test.YtfaabjohlimnlaaProg
import Derived.Test.YtfaabjohlimnlaaKit
import Derived.Test.YtfaabjohlimnlaaCr
import Derived.Laws.OwnMore
import Derived.Laws.AppendOwn
import Derived.Laws.CopyOwn
import Derived.OwnWalk
namespace Go.Proofs.Ytfaabjohlimnlaa
open Go.ChangeShapes Go.WideShapes Go.RowKit
set_option linter.unusedVariables false
set_option linter.unusedSimpArgs false

theorem byteInfo : (Try.prog.info? 5).map (fun i => (i.zero, i.size, i.bytes)) = some (some (.int .u8 0), 1, 1) := by kernel_rfl

def bv (n : Nat) : Value := .int .u8 n

theorem RdB.nil (w : World) (a : Option Addr) : RdB w a [] := ⟨by simp, by simp⟩
theorem RdB.below {w w' : World} {a : Option Addr} {l : List Nat} (h : RdB w a l) (hb : Below w.heap.size w w') : RdB w' a l := by
  refine ⟨h.lt, fun h0 => ?_⟩
  obtain ⟨b, off, e, hlt, hc⟩ := h.at_ h0
  exact ⟨b, off, e, Nat.lt_of_lt_of_le hlt hb.size, fun i hi => (hb.cell (p := ⟨b, off + i, none⟩) hlt).trans (hc i hi)⟩
theorem RdB.drew {w : World} {a : Option Addr} {l : List Nat} (h : RdB w a l) (n : Nat) : RdB (w.drewN n) a l := ⟨h.lt, h.at_⟩
theorem RdB.take {w : World} {a : Option Addr} {l : List Nat} (h : RdB w a l) (n : Nat) : RdB w a (l.take n) := by
  refine ⟨fun x hx => h.lt x (List.mem_of_mem_take hx), fun h0 => ?_⟩
  have hl : 0 < l.length := by rw [List.length_take] at h0; omega
  obtain ⟨b, off, e, hlt, hc⟩ := h.at_ hl
  refine ⟨b, off, e, hlt, fun i hi => ?_⟩
  rw [List.length_take] at hi
  rw [hc i (by omega)]
  simp [List.getD, List.getElem?_take, show i < n by omega]
theorem RdB.drop {w : World} {b off : Nat} {l : List Nat} (h : RdB w (some ⟨b, off, none⟩) l) (n : Nat) : RdB w (some ⟨b, off + n, none⟩) (l.drop n) := by
  refine ⟨fun x hx => h.lt x (List.mem_of_mem_drop hx), fun h0 => ?_⟩
  rw [List.length_drop] at h0
  obtain ⟨b', off', e, hlt, hc⟩ := h.at_ (by omega)
  simp only [Option.some.injEq, Addr.mk.injEq, and_true] at e
  obtain ⟨rfl, rfl⟩ := e
  refine ⟨_, _, rfl, hlt, fun i hi => ?_⟩
  rw [List.length_drop] at hi
  have := hc (n + i) (by omega)
  rw [Nat.add_assoc, this]
  simp [List.getD, List.getElem?_drop]

/-- a slice that the call made: these bytes -/
structure Own (w : World) (base : Nat) (A : Option Addr) (c : Nat) (l : List Nat) : Prop where
  row : w.ownsRow base 5 1 (.slice A l.length c) l.length (l.map bv)
  lt : ∀ x ∈ l, x < 256

theorem Own.rd {w : World} {base : Nat} {A : Option Addr} {c : Nat} {l : List Nat} (h : Own w base A c l) : RdB w A l := by
  refine ⟨h.lt, fun h0 => ?_⟩
  rcases h.row.2 with ⟨_, hn⟩ | ⟨g, cap, cur, hv, hb, hg, _⟩
  · omega
  · simp only [Value.slice.injEq] at hv
    obtain ⟨rfl, _, rfl⟩ := hv
    have hlt : g < w.heap.size := by
      rcases Nat.lt_or_ge g w.heap.size with h | h
      · exact h
      · rw [Array.getElem?_eq_none h] at hg; cases hg
    refine ⟨g, 0, rfl, hlt, fun i hi => ?_⟩
    rw [Nat.zero_add, h.row.cellAt i (by omega)]
    simp [bv, List.getD, hi]
theorem Own.cap {w : World} {base : Nat} {A : Option Addr} {c : Nat} {l : List Nat} (h : Own w base A c l) : l.length ≤ c ∧ c ≤ maxLen := by
  rcases h.row.2 with ⟨hv, hn⟩ | ⟨g, cap, cur, hv, hb, hg, h1, h2, _⟩
  · simp only [Value.slice.injEq] at hv; omega
  · simp only [Value.slice.injEq] at hv; omega
theorem Own.drew {w : World} {base : Nat} {A : Option Addr} {c : Nat} {l : List Nat} (h : Own w base A c l) (n : Nat) : Own (w.drewN n) base A c l := ⟨h.row, h.lt⟩
theorem Own.kept {w w' : World} {base : Nat} {A : Option Addr} {c : Nat} {l : List Nat} {row : Option Nat} (h : Own w base A c l) (hg : w.grownBy w' row) (hne : (Value.slice A l.length c).ownBlock = none ∨ (Value.slice A l.length c).ownBlock ≠ row) : Own w' base A c l :=
  ⟨h.row.kept hg hne, h.lt⟩
theorem Own.below {w w' : World} {base : Nat} {A : Option Addr} {c : Nat} {l : List Nat} (h : Own w base A c l) (hb : Below w.heap.size w w') : Own w' base A c l :=
  ⟨h.row.kept (row := none) ⟨hb.os, hb.tape, hb.output, hb.size, fun k hk _ => hb.block k hk⟩ (by cases hv : (Value.slice A l.length c).ownBlock <;> simp), h.lt⟩
/-- a new row, empty -/
theorem Own.new (w : World) (cur : Array Value) (cap : Nat) (hm : cap ≤ maxLen) (hs : cur.size = cap) : Own (w.alloc (.cells cur 5)) w.heap.size (some ⟨w.heap.size, 0, none⟩) cap [] :=
  ⟨World.ownsRow_made w cur cap (Nat.le_refl _) hm (by simpa using hs), by simp⟩
/-- a new row, full -/
theorem Own.lit (w : World) (l : List Nat) (hl : ∀ x ∈ l, x < 256) (hm : l.length ≤ maxLen) : Own (w.alloc (.cells (l.map bv).toArray 5)) w.heap.size (some ⟨w.heap.size, 0, none⟩) l.length l := by
  refine ⟨⟨by simp, .inr ⟨w.heap.size, l.length, _, rfl, Nat.le_refl _, heap_alloc_new w _, Nat.le_refl _, hm, by simp, ?_⟩⟩, hl⟩
  simp only [Nat.mul_one]
  exact List.take_of_length_le (by simp)

theorem bv_one (l : List Nat) : ∀ u ∈ l.map bv, u.oneCell' = true := by
  intro u hu
  obtain ⟨n, _, rfl⟩ := List.mem_map.1 hu
  rfl

theorem grown_below {w w' : World} {base : Nat} {row : Option Nat} (hg : w.grownBy w' row) (hb : base ≤ w.heap.size) (hr : ∀ k, row = some k → base ≤ k) : Below base w w' :=
  (Below.refl _ _).grown hg hb hr

/-- append onto a row of the call's own -/
theorem wpList_append_b {w : World} {ops : Array Oper} {rest : List Oper} {o : Oper} {a : Act} {Q : Exit → Act → World → Prop} (hgd : o.guard = none) (s x : Operand)
    (ho : o.op = .call { callee := .builtin .append, args := #[s, x], argTypes := #[22, 22] })
    (base : Nat) (A : Option Addr) (c : Nat) (l : List Nat) (hs : a.eval s = .slice A l.length c) (hown : Own w base A c l)
    (B : Option Addr) (d : Nat) (m : List Nat) (hx : a.eval x = .slice B m.length d) (hd : B = none → d = 0) (hr : RdB w B m) (hlen : l.length + m.length ≤ 1000000000000) (hbase : base ≤ w.heap.size)
    (h : ∀ (r : List Nat) (A' : Option Addr) (c' : Nat) (w' : World), Hid (r = l ++ m) → Own w' base A' c' r → Below base w w' → w.grownBy w' (Value.slice A l.length c).ownBlock → r.length ≤ 1000000000000 → wpList Try.prog ops Q rest (a.put o.dst (.slice A' r.length c')) w') :
    wpList Try.prog ops Q (o :: rest) a w := by
  obtain ⟨i, hi, hz0, hz1, hz2⟩ := info_parts byteInfo
  have hrow : ∀ k, (Value.slice A l.length c).ownBlock = some k → base ≤ k := fun k hk => (hown.row.lt k hk).1
  rcases B with _ | ad
  · have hm : m = [] := by
      rcases Nat.eq_zero_or_pos m.length with h0 | h0
      · exact List.eq_nil_of_length_eq_zero h0
      · obtain ⟨_, _, e, _⟩ := hr.at_ h0; cases e
    subst hm
    have hd0 := hd rfl
    subst hd0
    refine wpList_plain hgd fun K hK => ?_
    have hrun := run_append_owned_none (P := Try.prog) (w := w) base 22 o.type 5 i 1 Try.underlying22 hi _ l.length _ hown.row
    have hx' : a.eval x = .slice none 0 0 := by rw [hx]; rfl
    unfold Oper.wp execOp
    simp only [ho, resolve, invoke, builtin, Sem.run_bind, Sem.run_pure, Result.andThen_ok, List.map_toArray, List.map_cons, List.map_nil, hs, hx', hrun]
    exact hK _ _ (h l A c w (by simp [Hid]) hown (Below.refl _ _) (World.grownBy.refl _ _) (by simpa using hlen))
  · have hnews : ∀ j u, (m.map bv)[j]? = some u → w.cell? (ad.add j) = some u := by
      intro j u hu
      rw [List.getElem?_map] at hu
      have hj : j < m.length := by
        rcases Nat.lt_or_ge j m.length with h0 | h0
        · exact h0
        · rw [List.getElem?_eq_none h0] at hu; cases hu
      obtain ⟨b, off, e, _, hc⟩ := hr.at_ (by omega)
      injection e with e
      subst e
      have hadd : (⟨b, off, none⟩ : Addr).add j = ⟨b, off + j, none⟩ := by unfold Addr.add; split <;> simp_all
      rw [hadd, hc j hj]
      rw [List.getElem?_eq_getElem hj] at hu
      simp only [Option.map_some, Option.some.injEq] at hu
      rw [← hu, List.getD, List.getElem?_eq_getElem hj]
      rfl
    obtain ⟨v', w', hrun, h2, h3, _⟩ := run_append_own (P := Try.prog) w base 22 o.type 5 i _ 1 1 Try.underlying22 hi hz0 hz1 hz2 rfl (by omega) _ l.length _ hown.row ad m.length d (m.map bv) (by simp) hnews (bv_one m) (by simp only [maxLen]; omega) (by omega) hbase
    refine wpList_plain hgd fun K hK => ?_
    unfold Oper.wp execOp
    simp only [ho, resolve, invoke, builtin, Sem.run_bind, Sem.run_pure, Result.andThen_ok, List.map_toArray, List.map_cons, List.map_nil, hs, hx, hrun]
    have hv' : ∃ A' c', v' = .slice A' (l ++ m).length c' := by
      rcases h2.2 with ⟨hv, hn⟩ | ⟨g, cap, cur, hv, _⟩
      · exact ⟨none, 0, by rw [hv, List.length_append, hn]⟩
      · exact ⟨_, _, by rw [hv, List.length_append]⟩
    obtain ⟨A', c', rfl⟩ := hv'
    refine hK _ _ (h (l ++ m) A' c' w' (by simp [Hid]) ⟨?_, ?_⟩ (grown_below h3 hbase hrow) h3 (by simpa using hlen))
    · rw [List.length_append, List.map_append]
      rw [List.length_append] at h2
      exact h2
    · intro y hy
      rcases List.mem_append.1 hy with hy | hy
      · exact hown.lt y hy
      · exact hr.lt y hy

end Go.Proofs.Ytfaabjohlimnlaa
