/- Mail, in plain numbers: what comes in a cycle, sorted. No condition. -/
import Derived.Test.YtfaabjohlimnlaaFm
namespace Go.Proofs.Ytfaabjohlimnlaa.Ml
open Go.Proofs.Ytfaabjohlimnlaa
set_option linter.unusedVariables false
set_option linter.unusedSimpArgs false

structure M where
  has : Nat → Bool
  val : Nat → Int
  bad : Nat
  stale : Nat
  twice : Nat
  beyond : Nat

def upd {α : Type} (f : Nat → α) (k : Nat) (x : α) : Nat → α := fun i => if i = k then x else f i

/-- a text is taken, or counted -/
def take (seq : Int) (m : M) (g : Fr.G) : M :=
  if g.err ≠ 0 then { m with bad := m.bad + 1 }
  else if g.seq ≠ seq then { m with stale := m.stale + 1 }
  else if m.has g.kind.toNat = true then { m with twice := m.twice + 1 }
  else { m with has := upd m.has g.kind.toNat true, val := upd m.val g.kind.toNat g.value }

def none_ (b : Nat) : M := ⟨fun _ => false, fun _ => 0, 0, 0, 0, b⟩
def takes (seq : Int) (m : M) (ls : List (List Nat)) : M := ls.foldl (fun m l => take seq m (Fr.get l)) m
def sort (cycle : Int) (ls : List (List Nat)) : M := takes (cycle % 256) (none_ (ls.length - 32)) (ls.take 32)

theorem takes_append (seq : Int) (m : M) (a b : List (List Nat)) : takes seq m (a ++ b) = takes seq (takes seq m a) b := List.foldl_append ..
theorem takes_cons (seq : Int) (m : M) (l : List Nat) (b : List (List Nat)) : takes seq m (l :: b) = takes seq (take seq m (Fr.get l)) b := rfl
theorem takes_snoc (seq : Int) (m : M) (a : List (List Nat)) (l : List Nat) : takes seq m (a ++ [l]) = take seq (takes seq m a) (Fr.get l) := by rw [takes_append]; rfl

/-- how many kinds are there -/
def cnt (h : Nat → Bool) : Nat := (h 0).toNat + (h 1).toNat + (h 2).toNat + (h 3).toNat + (h 4).toNat + (h 5).toNat

theorem kind_range (l : List Nat) (hl : ∀ x ∈ l, x < 256) (h : (Fr.get l).err = 0) : 1 ≤ (Fr.get l).kind ∧ (Fr.get l).kind ≤ 5 := by
  have := (Fr.bytes_get l hl h).1
  rcases Fr.sz_cases (Fr.get l).kind with h | h | h <;> omega

theorem take_count (seq : Int) (m : M) (l : List Nat) (hl : ∀ x ∈ l, x < 256) :
    (take seq m (Fr.get l)).bad + (take seq m (Fr.get l)).stale + (take seq m (Fr.get l)).twice + (take seq m (Fr.get l)).beyond + cnt (take seq m (Fr.get l)).has = m.bad + m.stale + m.twice + m.beyond + cnt m.has + 1 := by
  unfold take
  split
  · simp; omega
  · rename_i he
    split
    · simp; omega
    · split
      · simp; omega
      · rename_i hh
        have hk := kind_range l hl (by omega)
        generalize (Fr.get l).kind = k at hk hh
        obtain ⟨n, rfl⟩ : ∃ n : Nat, k = n := ⟨k.toNat, by omega⟩
        simp only [Int.toNat_natCast] at hh ⊢
        have : n = 1 ∨ n = 2 ∨ n = 3 ∨ n = 4 ∨ n = 5 := by omega
        rcases this with rfl | rfl | rfl | rfl | rfl <;> simp_all [cnt, upd] <;> omega

theorem takes_count (seq : Int) (ls : List (List Nat)) : ∀ (m : M), (∀ l ∈ ls, ∀ x ∈ l, x < 256) →
    (takes seq m ls).bad + (takes seq m ls).stale + (takes seq m ls).twice + (takes seq m ls).beyond + cnt (takes seq m ls).has = m.bad + m.stale + m.twice + m.beyond + cnt m.has + ls.length := by
  induction ls with
  | nil => intro m _; rfl
  | cons l ls ih =>
    intro m h
    have h1 := ih (take seq m (Fr.get l)) (fun l' hl' => h l' (List.mem_cons_of_mem _ hl'))
    have h2 := take_count seq m l (h l (List.mem_cons_self ..))
    rw [List.length_cons, takes_cons]
    omega

/-- each text is taken, or counted once -/
theorem sort_count (cycle : Int) (ls : List (List Nat)) (h : ∀ l ∈ ls, ∀ x ∈ l, x < 256) :
    (sort cycle ls).bad + (sort cycle ls).stale + (sort cycle ls).twice + (sort cycle ls).beyond + cnt (sort cycle ls).has = ls.length := by
  unfold sort
  rw [takes_count _ _ _ (fun l hl => h l (List.mem_of_mem_take hl))]
  rw [List.length_take]
  show 0 + 0 + 0 + (ls.length - 32) + 0 + _ = _
  omega

/-- what is bad or stale changes nothing that was taken -/
def off (m : M) (m' : M) : Prop := m'.has = m.has ∧ m'.val = m.val ∧ m'.twice = m.twice ∧ m'.bad + m'.stale = m.bad + m.stale + 1
theorem take_off (seq : Int) {m m' : M} (g : Fr.G) (h : off m m') : off (take seq m g) (take seq m' g) := by
  obtain ⟨h1, h2, h3, h4⟩ := h
  unfold take off
  by_cases he : g.err ≠ 0
  · rw [if_pos he, if_pos he]; exact ⟨h1, h2, h3, by simp; omega⟩
  rw [if_neg he, if_neg he]
  by_cases hs : g.seq ≠ seq
  · rw [if_pos hs, if_pos hs]; exact ⟨h1, h2, h3, by simp; omega⟩
  rw [if_neg hs, if_neg hs]
  by_cases hh : m.has g.kind.toNat = true
  · rw [if_pos hh, if_pos (by rw [h1]; exact hh)]; exact ⟨h1, h2, by simp [h3], h4⟩
  · rw [if_neg hh, if_neg (by rw [h1]; exact hh)]; exact ⟨by simp [h1], by simp [h2], h3, h4⟩
theorem takes_off (seq : Int) (ls : List (List Nat)) : ∀ {m m' : M}, off m m' → off (takes seq m ls) (takes seq m' ls) := by
  induction ls with
  | nil => intro m m' h; exact h
  | cons l ls ih => intro m m' h; exact ih (take_off seq (Fr.get l) h)

theorem sort_after (cycle : Int) (a b : List (List Nat)) (l : List Nat) (h : ¬ ((Fr.get l).err = 0 ∧ (Fr.get l).seq = cycle % 256)) (hn : (a ++ b).length ≤ 31) :
    off (sort cycle (a ++ b)) (sort cycle (a ++ l :: b)) := by
  rw [List.length_append] at hn
  have e1 : (a ++ b).take 32 = a ++ b := List.take_of_length_le (by rw [List.length_append]; omega)
  have e2 : (a ++ l :: b).take 32 = a ++ l :: b := List.take_of_length_le (by rw [List.length_append, List.length_cons]; omega)
  have e3 : (a ++ b).length - 32 = 0 := by rw [List.length_append]; omega
  have e4 : (a ++ l :: b).length - 32 = 0 := by rw [List.length_append, List.length_cons]; omega
  unfold sort
  rw [e1, e2, e3, e4, takes_append, takes_append]
  show off _ (takes _ (take _ _ (Fr.get l)) b)
  refine takes_off _ _ ?_
  generalize takes (cycle % 256) (none_ 0) a = m
  unfold take off
  by_cases he : (Fr.get l).err ≠ 0
  · rw [if_pos he]; exact ⟨rfl, rfl, rfl, by simp; omega⟩
  rw [if_neg he, if_pos (fun hs => h ⟨by omega, hs⟩)]
  exact ⟨rfl, rfl, rfl, by simp; omega⟩

/-- behind frames of all kinds nothing is taken -/
def full (m : M) : Prop := ∀ i, 1 ≤ i → i ≤ 5 → m.has i = true
theorem take_full (seq : Int) {m : M} (l : List Nat) (hl : ∀ x ∈ l, x < 256) (h : full m) : (take seq m (Fr.get l)).has = m.has ∧ (take seq m (Fr.get l)).val = m.val := by
  unfold take
  split
  · exact ⟨rfl, rfl⟩
  · rename_i he
    split
    · exact ⟨rfl, rfl⟩
    · rw [if_pos]
      · exact ⟨rfl, rfl⟩
      · have hk := kind_range l hl (by omega)
        exact h _ (by omega) (by omega)
theorem takes_full (seq : Int) (ls : List (List Nat)) : ∀ (m : M), (∀ l ∈ ls, ∀ x ∈ l, x < 256) → full m → (takes seq m ls).has = m.has ∧ (takes seq m ls).val = m.val := by
  induction ls with
  | nil => intro m _ _; exact ⟨rfl, rfl⟩
  | cons l ls ih =>
    intro m hl h
    obtain ⟨h1, h2⟩ := take_full seq l (hl l (List.mem_cons_self ..)) h
    obtain ⟨h3, h4⟩ := ih (take seq m (Fr.get l)) (fun l' hl' => hl l' (List.mem_cons_of_mem _ hl')) (fun i a b => by rw [h1]; exact h i a b)
    exact ⟨h3.trans h1, h4.trans h2⟩

theorem take_bytes (k s v : Int) (m : M) (hk : Fr.sz k ≠ 0) (h : Fr.ok k s v) (hh : m.has k.toNat = false) :
    take s m (Fr.get (Fr.bytes k s v)) = { m with has := upd m.has k.toNat true, val := upd m.val k.toNat v } := by
  rw [Fr.get_bytes k s v hk h]
  unfold take
  rw [if_neg (by simp), if_neg (by simp), if_neg (by simp [hh])]

/-- the first five -/
def five (s : Int) (v : Nat → Int) : List (List Nat) := [Fr.bytes 1 s (v 1), Fr.bytes 2 s (v 2), Fr.bytes 3 s (v 3), Fr.bytes 4 s (v 4), Fr.bytes 5 s (v 5)]
def fiveM (v : Nat → Int) (b : Nat) : M := ⟨upd (upd (upd (upd (upd (fun _ => false) 1 true) 2 true) 3 true) 4 true) 5 true, upd (upd (upd (upd (upd (fun _ => 0) 1 (v 1)) 2 (v 2)) 3 (v 3)) 4 (v 4)) 5 (v 5), 0, 0, 0, b⟩
theorem takes_five (s : Int) (v : Nat → Int) (b : Nat) (h1 : Fr.ok 1 s (v 1)) (h2 : Fr.ok 2 s (v 2)) (h3 : Fr.ok 3 s (v 3)) (h4 : Fr.ok 4 s (v 4)) (h5 : Fr.ok 5 s (v 5)) :
    takes s (none_ b) (five s v) = fiveM v b := by
  unfold takes five
  simp only [List.foldl_cons, List.foldl_nil]
  rw [take_bytes 1 s _ _ (by decide) h1 rfl, take_bytes 2 s _ _ (by decide) h2 rfl, take_bytes 3 s _ _ (by decide) h3 rfl, take_bytes 4 s _ _ (by decide) h4 rfl, take_bytes 5 s _ _ (by decide) h5 rfl]
  rfl
theorem sort_first (cycle : Int) (v : Nat → Int) (more : List (List Nat)) (hm : ∀ l ∈ more, ∀ x ∈ l, x < 256)
    (h1 : Fr.ok 1 (cycle % 256) (v 1)) (h2 : Fr.ok 2 (cycle % 256) (v 2)) (h3 : Fr.ok 3 (cycle % 256) (v 3)) (h4 : Fr.ok 4 (cycle % 256) (v 4)) (h5 : Fr.ok 5 (cycle % 256) (v 5)) :
    sort cycle (five (cycle % 256) v) = fiveM v 0 ∧ (sort cycle (five (cycle % 256) v ++ more)).has = (fiveM v 0).has ∧ (sort cycle (five (cycle % 256) v ++ more)).val = (fiveM v 0).val := by
  have e : ∀ b, takes (cycle % 256) (none_ b) (five (cycle % 256) v) = fiveM v b := fun b => takes_five _ v b h1 h2 h3 h4 h5
  refine ⟨e 0, ?_⟩
  have e2 : (five (cycle % 256) v ++ more).take 32 = five (cycle % 256) v ++ more.take 27 := by
    rw [List.take_append]; rfl
  have hf : ∀ b, full (fiveM v b) := by
    intro b i a c
    have : i = 1 ∨ i = 2 ∨ i = 3 ∨ i = 4 ∨ i = 5 := by omega
    rcases this with rfl | rfl | rfl | rfl | rfl <;> rfl
  unfold sort
  rw [e2, takes_append, e]
  exact takes_full _ _ _ (fun l hl => hm l (List.mem_of_mem_take hl)) (hf _)

/-- how many come is how many are counted at most -/
theorem take_le (seq : Int) (m : M) (g : Fr.G) (n : Nat) (h : m.bad ≤ n ∧ m.stale ≤ n ∧ m.twice ≤ n) : (take seq m g).bad ≤ n + 1 ∧ (take seq m g).stale ≤ n + 1 ∧ (take seq m g).twice ≤ n + 1 ∧ (take seq m g).beyond = m.beyond := by
  unfold take
  split
  · simp; omega
  split
  · simp; omega
  split
  · simp; omega
  · simp; omega
theorem takes_le (seq : Int) (ls : List (List Nat)) : ∀ (m : M) (n : Nat), (m.bad ≤ n ∧ m.stale ≤ n ∧ m.twice ≤ n) → (takes seq m ls).bad ≤ n + ls.length ∧ (takes seq m ls).stale ≤ n + ls.length ∧ (takes seq m ls).twice ≤ n + ls.length ∧ (takes seq m ls).beyond = m.beyond := by
  induction ls with
  | nil => intro m n h; exact ⟨h.1, h.2.1, h.2.2, rfl⟩
  | cons l ls ih =>
    intro m n h
    have h1 := take_le seq m (Fr.get l) n h
    have h2 := ih (take seq m (Fr.get l)) (n + 1) ⟨h1.1, h1.2.1, h1.2.2.1⟩
    rw [List.length_cons, takes_cons]
    omega
theorem none_le (seq : Int) (b : Nat) (ls : List (List Nat)) : (takes seq (none_ b) ls).bad ≤ ls.length ∧ (takes seq (none_ b) ls).stale ≤ ls.length ∧ (takes seq (none_ b) ls).twice ≤ ls.length ∧ (takes seq (none_ b) ls).beyond = b := by
  have := takes_le seq ls (none_ b) 0 ⟨Nat.le_refl _, Nat.le_refl _, Nat.le_refl _⟩
  rw [Nat.zero_add] at this
  exact this

/-- a value that was taken fits 64 bits -/
def fit (m : M) : Prop := ∀ i, -2147483648 ≤ m.val i ∧ m.val i ≤ 2147483647
theorem take_fit (seq : Int) (m : M) (l : List Nat) (hl : ∀ x ∈ l, x < 256) (h : fit m) : fit (take seq m (Fr.get l)) := by
  unfold take
  split
  · exact h
  rename_i he
  split
  · exact h
  split
  · exact h
  · intro i
    show _ ≤ upd _ _ _ i ∧ upd _ _ _ i ≤ _
    unfold upd
    split
    · have hb := Fr.bytes_get l hl (by omega)
      have hf := hb.2.1.2
      unfold Fr.fits at hf
      rcases Fr.sz_cases (Fr.get l).kind with h | h | h
      · exact absurd h.1 hb.1
      · have := hf.1 h.1; omega
      · have := hf.2 h.1; omega
    · exact h i
theorem takes_fit (seq : Int) (ls : List (List Nat)) : ∀ (m : M), (∀ l ∈ ls, ∀ x ∈ l, x < 256) → fit m → fit (takes seq m ls) := by
  induction ls with
  | nil => intro m _ h; exact h
  | cons l ls ih => intro m hl h; exact ih _ (fun l' hl' => hl l' (List.mem_cons_of_mem _ hl')) (take_fit seq m l (hl l (List.mem_cons_self ..)) h)
theorem none_fit (b : Nat) : fit (none_ b) := fun i => by show (-2147483648 : Int) ≤ 0 ∧ (0 : Int) ≤ 2147483647; omega
theorem sort_fit (cycle : Int) (ls : List (List Nat)) (h : ∀ l ∈ ls, ∀ x ∈ l, x < 256) : fit (sort cycle ls) := takes_fit _ _ _ (fun l hl => h l (List.mem_of_mem_take hl)) (none_fit _)

end Go.Proofs.Ytfaabjohlimnlaa.Ml
