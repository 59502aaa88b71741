/- append onto a slice of texts of the call's own. No condition. -/
import Derived.Test.YtfaabjohlimnlaaMs
import Derived.Test.YtfaabjohlimnlaaBy
import Derived.Deep.RegionLaw
namespace Go.Proofs.Ytfaabjohlimnlaa
open Go.ChangeShapes Go.WideShapes Go.RowKit
set_option linter.unusedVariables false
set_option linter.unusedSimpArgs false

theorem rowInfo : (Try.prog.info? 22).map (fun i => (i.zero, i.size, i.bytes)) = some (some (.slice none 0 0), 1, 24) := by kernel_rfl

/-- a slice that the call made: these rows -/
def OwnR (w : World) (base : Nat) (A : Option Addr) (c : Nat) (rs : List Rw) : Prop := w.ownsRow base 22 1 (.slice A rs.length c) rs.length (rs.map Rw.v)

theorem OwnR.rd {w : World} {base : Nat} {A : Option Addr} {c : Nat} {rs : List Rw} (h : OwnR w base A c rs) (ok : ∀ r ∈ rs, RwOk w r) : RdR w A rs := by
  refine ⟨ok, fun h0 => ?_⟩
  rcases h.2 with ⟨_, hn⟩ | ⟨g, cap, cur, hv, hb, hg, _⟩
  · omega
  · simp only [Value.slice.injEq] at hv
    obtain ⟨rfl, _, rfl⟩ := hv
    have hlt : g < w.heap.size := by
      rcases Nat.lt_or_ge g w.heap.size with h | h
      · exact h
      · rw [Array.getElem?_eq_none h] at hg; cases hg
    refine ⟨g, 0, rfl, hlt, fun i hi => ?_⟩
    rw [Nat.zero_add, World.ownsRow.cellAt h i (by omega)]
    simp [List.getD, hi]
theorem OwnR.cap {w : World} {base : Nat} {A : Option Addr} {c : Nat} {rs : List Rw} (h : OwnR w base A c rs) : rs.length ≤ c ∧ c ≤ maxLen := by
  rcases h.2 with ⟨hv, hn⟩ | ⟨g, cap, cur, hv, hb, hg, h1, h2, _⟩
  · simp only [Value.slice.injEq] at hv; omega
  · simp only [Value.slice.injEq] at hv; omega
theorem OwnR.drew {w : World} {base : Nat} {A : Option Addr} {c : Nat} {rs : List Rw} (h : OwnR w base A c rs) (n : Nat) : OwnR (w.drewN n) base A c rs := h
theorem OwnR.below {w w' : World} {base : Nat} {A : Option Addr} {c : Nat} {rs : List Rw} (h : OwnR w base A c rs) (hb : Below w.heap.size w w') : OwnR w' base A c rs :=
  World.ownsRow.kept h (row := none) ⟨hb.os, hb.tape, hb.output, hb.size, fun k hk _ => hb.block k hk⟩ (by cases hv : (Value.slice A rs.length c).ownBlock <;> simp)
theorem OwnR.nil (w : World) (base : Nat) : OwnR w base none 0 [] := World.ownsRow_nil w base _ _
theorem OwnR.new (w : World) (base : Nat) (hb : base ≤ w.heap.size) : OwnR (w.alloc (.cells #[] 22)) base (some ⟨w.heap.size, 0, none⟩) 0 [] :=
  World.ownsRow_made w #[] 0 hb (by simp [maxLen]) (by simp)
theorem OwnR.noneNil {w : World} {base : Nat} {A : Option Addr} {c : Nat} {rs : List Rw} (h : OwnR w base A c rs) : A = none → c = 0 := by
  rcases h.2 with ⟨hv, hn⟩ | ⟨g, cap, cur, hv, _⟩
  · simp only [Value.slice.injEq] at hv; intro _; exact hv.2.2
  · simp only [Value.slice.injEq] at hv; intro h; rw [h] at hv; cases hv.1

theorem rv_one (rs : List Rw) : ∀ u ∈ rs.map Rw.v, u.oneCell' = true := by
  intro u hu
  obtain ⟨n, _, rfl⟩ := List.mem_map.1 hu
  rfl
/-- the rows' cells can be read -/
structure Cel (w : World) (B : Option Addr) (m : List Rw) : Prop where
  at_ : 0 < m.length → ∃ b off, B = some ⟨b, off, none⟩ ∧ ∀ i, i < m.length → w.cell? ⟨b, off + i, none⟩ = some (m.getD i Rw.z).v
theorem RdR.cel {w : World} {B : Option Addr} {m : List Rw} (h : RdR w B m) : Cel w B m := ⟨fun h0 => by
  obtain ⟨b, off, e, _, hc⟩ := h.at_ h0
  exact ⟨b, off, e, hc⟩⟩
theorem Cel.one (w : World) (r : Rw) (T : TypeId) : Cel (w.alloc (.cells #[r.v] T)) (some ⟨w.heap.size, 0, none⟩) [r] := ⟨fun _ => ⟨_, 0, rfl, fun i hi => by
  have : i = 0 := by simp at hi; omega
  subst this
  rw [World.cell?_alloc_new]; rfl⟩⟩

/-- append onto a row of the call's own -/
theorem wp_append_r {w : World} {o : Oper} {a : Act} {K : Act → World → Prop} {Q : Exit → Act → World → Prop} (s x : Operand)
    (ho : o.op = .call { callee := .builtin .append, args := #[s, x], argTypes := #[50, 50] })
    (base : Nat) (A : Option Addr) (c : Nat) (l : List Rw) (hs : a.eval s = .slice A l.length c) (hown : OwnR w base A c l)
    (B : Option Addr) (d : Nat) (m : List Rw) (hx : a.eval x = .slice B m.length d) (hd : B = none → d = 0) (hr : Cel w B m) (hlen : l.length + m.length ≤ 1000000) (hbase : base ≤ w.heap.size)
    (h : ∀ (r : List Rw) (A' : Option Addr) (c' : Nat) (w' : World), Hid (r = l ++ m) → OwnR w' base A' c' r → Below base w w' → w.grownBy w' (Value.slice A l.length c).ownBlock → r.length ≤ 1000000 → K (a.put o.dst (.slice A' r.length c')) w') :
    o.wp Try.prog a w K Q := by
  obtain ⟨i, hi, hz0, hz1, hz2⟩ := info_parts rowInfo
  have hrow : ∀ k, (Value.slice A l.length c).ownBlock = some k → base ≤ k := fun k hk => (World.ownsRow.lt hown k hk).1
  rcases B with _ | ad
  · have hm : m = [] := by
      rcases Nat.eq_zero_or_pos m.length with h0 | h0
      · exact List.eq_nil_of_length_eq_zero h0
      · obtain ⟨_, _, e, _⟩ := hr.at_ h0; cases e
    subst hm
    have hd0 := hd rfl
    subst hd0
    have hrun := run_append_owned_none (P := Try.prog) (w := w) base 50 o.type 22 i 1 Try.underlying50 hi _ l.length _ hown
    have hx' : a.eval x = .slice none 0 0 := by rw [hx]; rfl
    unfold Oper.wp execOp
    simp only [ho, resolve, invoke, builtin, Sem.run_bind, Sem.run_pure, Result.andThen_ok, List.map_toArray, List.map_cons, List.map_nil, hs, hx', hrun]
    exact h l A c w (by simp [Hid]) hown (Below.refl _ _) (World.grownBy.refl _ _) (by simpa using hlen)
  · have hnews : ∀ j u, (m.map Rw.v)[j]? = some u → w.cell? (ad.add j) = some u := by
      intro j u hu
      rw [List.getElem?_map] at hu
      have hj : j < m.length := by
        rcases Nat.lt_or_ge j m.length with h0 | h0
        · exact h0
        · rw [List.getElem?_eq_none h0] at hu; cases hu
      obtain ⟨b, off, e, hc⟩ := hr.at_ (by omega)
      injection e with e
      subst e
      have hadd : (⟨b, off, none⟩ : Addr).add j = ⟨b, off + j, none⟩ := by unfold Addr.add; split <;> simp_all
      rw [hadd, hc j hj]
      rw [List.getElem?_eq_getElem hj] at hu
      simp only [Option.map_some, Option.some.injEq] at hu
      rw [← hu, List.getD, List.getElem?_eq_getElem hj]
      rfl
    obtain ⟨v', w', hrun, h2, h3, _⟩ := run_append_own (P := Try.prog) w base 50 o.type 22 i _ 1 24 Try.underlying50 hi hz0 hz1 hz2 rfl (by omega) _ l.length _ hown ad m.length d (m.map Rw.v) (by simp) hnews (rv_one m) (by simp only [maxLen]; omega) (by omega) hbase
    unfold Oper.wp execOp
    simp only [ho, resolve, invoke, builtin, Sem.run_bind, Sem.run_pure, Result.andThen_ok, List.map_toArray, List.map_cons, List.map_nil, hs, hx, hrun]
    have hv' : ∃ A' c', v' = .slice A' (l ++ m).length c' := by
      rcases h2.2 with ⟨hv, hn⟩ | ⟨g, cap, cur, hv, _⟩
      · exact ⟨none, 0, by rw [hv, List.length_append, hn]⟩
      · exact ⟨_, _, by rw [hv, List.length_append]⟩
    obtain ⟨A', c', rfl⟩ := hv'
    refine h (l ++ m) A' c' w' (by simp [Hid]) ?_ (grown_below h3 hbase hrow) h3 (by simpa using hlen)
    unfold OwnR
    rw [List.length_append, List.map_append]
    rw [List.length_append] at h2
    exact h2

theorem wpList_append_r {w : World} {ops : Array Oper} {rest : List Oper} {o : Oper} {a : Act} {Q : Exit → Act → World → Prop} (hgd : o.guard = none) (s x : Operand)
    (ho : o.op = .call { callee := .builtin .append, args := #[s, x], argTypes := #[50, 50] })
    (base : Nat) (A : Option Addr) (c : Nat) (l : List Rw) (hs : a.eval s = .slice A l.length c) (hown : OwnR w base A c l)
    (B : Option Addr) (d : Nat) (m : List Rw) (hx : a.eval x = .slice B m.length d) (hd : B = none → d = 0) (hr : Cel w B m) (hlen : l.length + m.length ≤ 1000000) (hbase : base ≤ w.heap.size)
    (h : ∀ (r : List Rw) (A' : Option Addr) (c' : Nat) (w' : World), Hid (r = l ++ m) → OwnR w' base A' c' r → Below base w w' → w.grownBy w' (Value.slice A l.length c).ownBlock → r.length ≤ 1000000 → wpList Try.prog ops Q rest (a.put o.dst (.slice A' r.length c')) w') :
    wpList Try.prog ops Q (o :: rest) a w :=
  wpList_plain hgd fun K hK => wp_append_r s x ho base A c l hs hown B d m hx hd hr hlen hbase fun r A' c' w' h1 h2 h3 h4 h5 => hK _ _ (h r A' c' w' h1 h2 h3 h4 h5)

theorem step_append_r {w : World} {ops : Array Oper} {o : Oper} {a : Act} {K : Act → World → Prop} {Q : Exit → Act → World → Prop} {E : Prop} (hgd : o.guard = none) (s x : Operand)
    (ho : o.op = .call { callee := .builtin .append, args := #[s, x], argTypes := #[50, 50] })
    (base : Nat) (A : Option Addr) (c : Nat) (l : List Rw) (hs : a.eval s = .slice A l.length c) (hown : OwnR w base A c l)
    (B : Option Addr) (d : Nat) (m : List Rw) (hx : a.eval x = .slice B m.length d) (hd : B = none → d = 0) (hr : Cel w B m) (hlen : l.length + m.length ≤ 1000000) (hbase : base ≤ w.heap.size)
    (h : ∀ (r : List Rw) (A' : Option Addr) (c' : Nat) (w' : World), Hid (r = l ++ m) → OwnR w' base A' c' r → Below base w w' → w.grownBy w' (Value.slice A l.length c).ownBlock → r.length ≤ 1000000 → K (a.put o.dst (.slice A' r.length c')) w') :
    if Region.wanted o (yielded ops a.tmps) = true then Oper.wp Try.prog o a w K Q else E := by
  have hw : Region.wanted o (yielded ops a.tmps) = true := by simp [Region.wanted, hgd]
  rw [if_pos hw]
  exact wp_append_r s x ho base A c l hs hown B d m hx hd hr hlen hbase h

theorem Cel.kept {w w' : World} {B : Option Addr} {m : List Rw} {row : Option Nat} (h : Cel w B m) (hg : w.grownBy w' row) (hne : ∀ b off, B = some ⟨b, off, none⟩ → some b ≠ row) : Cel w' B m := ⟨fun h0 => by
  obtain ⟨b, off, e, hc⟩ := h.at_ h0
  exact ⟨b, off, e, fun i hi => hg.cell (hc i hi) (hne b off e)⟩⟩
theorem on_drew {B : Nat} {w w1 : World} (h : Below B w w1) : Below B w w1.drew := ⟨h.os, h.tape, h.output, h.size, h.block⟩

end Go.Proofs.Ytfaabjohlimnlaa
