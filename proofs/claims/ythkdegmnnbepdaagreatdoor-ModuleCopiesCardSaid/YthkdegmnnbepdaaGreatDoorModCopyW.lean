/-
  Rows of a copy's own, written in place; code and functions of its own. Plain but for the shape of memory.
-/
import Derived.Test.YthkdegmnnbepdaaGreatDoorModCopyH
namespace Go.Proofs.YthkdegmnnbepdaaGreatDoor.Mod
open Go.RowKit Go.Maps Go.Proofs.YthkdegmnnbepdaaGreatDoor.Op
set_option linter.unusedVariables false
theorem ownsRow_set {w : World} {B : Nat} {e : TypeId} {size : Nat} {n g cap : Nat} {xs : List Value} (h : w.ownsRow B e size (.slice (some ⟨g, 0, none⟩) n cap) n xs) (j : Nat) (u : Value) : (w.setCell ⟨g, j, none⟩ u).ownsRow B e size (.slice (some ⟨g, 0, none⟩) n cap) n (xs.set j u) := by
  refine ⟨by rw [List.length_set]; exact h.1, ?_⟩
  rcases h.2 with ⟨h1, _⟩ | ⟨g', cap', cur, h1, hb, hg, h2, h3, h4, h5⟩
  · simp at h1
  · simp only [Value.slice.injEq, Option.some.injEq, Addr.mk.injEq] at h1
    obtain ⟨⟨rfl, _⟩, _, rfl⟩ := h1
    refine .inr ⟨g, cap, cur.setIfInBounds j u, rfl, hb, box_set hg j u, h2, h3, by simp [h4], ?_⟩
    rw [Array.toList_setIfInBounds, List.take_set, h5]
theorem flatten_set {size : Nat} (p : Nat) (hp : p < size) (u : Value) : ∀ (rows : List (List Value)) (i : Nat) (r : List Value), (∀ r ∈ rows, r.length = size) → rows[i]? = some r → (rows.set i (r.set p u)).flatten = rows.flatten.set (i * size + p) u := by
  intro rows
  induction rows with
  | nil => intro i r _ h; simp at h
  | cons r0 rs ih =>
    intro i r hsz h
    have h0 : r0.length = size := hsz r0 (by simp)
    cases i with
    | zero =>
      simp at h
      subst h
      simp only [List.set_cons_zero, List.flatten_cons, Nat.zero_mul, Nat.zero_add]
      rw [List.set_append_left _ _ (by omega)]
    | succ i =>
      simp only [List.getElem?_cons_succ] at h
      simp only [List.set_cons_succ, List.flatten_cons]
      rw [ih i r (fun r hr => hsz r (by simp [hr])) h, List.set_append_right _ _ (by rw [Nat.add_mul]; omega), h0]
      congr 2
      rw [Nat.add_mul]
      omega
theorem OwnAt.block {w : World} {B : Nat} {e : TypeId} {size : Nat} {v : Value} {rows : List (List Value)} (h : OwnAt w B e size v rows) {i : Nat} {r : List Value} (hr : rows[i]? = some r) : ∃ g cap, v = .slice (some ⟨g, 0, none⟩) rows.length cap ∧ B ≤ g ∧ g < w.heap.size := by
  have hi := (List.getElem?_eq_some_iff.1 hr).1
  have h0 := h.1
  rcases h.1.2 with ⟨_, h2⟩ | ⟨g, cap, cur, h1, hb, _⟩
  · omega
  · rw [h1] at h0
    exact ⟨g, cap, h1, hb, (h0.lt g rfl).2⟩
theorem OwnAt.put {w : World} {B : Nat} {e : TypeId} {size : Nat} {g n cap : Nat} {rows : List (List Value)} (h : OwnAt w B e size (.slice (some ⟨g, 0, none⟩) n cap) rows) (hn : n = rows.length) {i : Nat} {r : List Value} (hr : rows[i]? = some r) {p : Nat} (hp : p < size) (u : Value) : OwnAt (w.setCell ⟨g, i * size + p, none⟩ u) B e size (.slice (some ⟨g, 0, none⟩) n cap) (rows.set i (r.set p u)) := by
  subst hn
  refine ⟨?_, fun q hq => ?_⟩
  · rw [List.length_set, flatten_set p hp u rows i r h.2 hr]
    exact ownsRow_set h.1 _ _
  · rcases List.mem_or_eq_of_mem_set hq with h1 | h1
    · exact h.2 _ h1
    · rw [h1, List.length_set]
      exact h.2 _ (List.mem_of_getElem? hr)
/-- labels of its own -/
def LabOwn (w : World) (B : Nat) (v : Value) (zs : List Int) : Prop := OwnAt w B 3 1 v (zs.map fun z => [.int .i64 z])
def InsOwn (w : World) (B : Nat) (r : List Value) (x : InsL) : Prop := ∃ lv, r = [.int .i64 x.op, .int .i64 x.a, .int .i64 x.b, lv] ∧ LabOwn w B lv x.labels ∧ (Lit.int .i64 x.op).wf = true
/-- code of its own -/
def CodeOwn (w : World) (B : Nat) (v : Value) (code : List InsL) : Prop := ∃ rows, OwnAt w B 40 4 v rows ∧ rows.length = code.length ∧ ∀ (i : Nat) r x, rows[i]? = some r → code[i]? = some x → InsOwn w B r x
def FuncOwn (w : World) (B : Nat) (r : List Value) (x : FuncP) : Prop := ∃ cv, r = [.int .i64 x.ty, .string x.locals, cv] ∧ CodeOwn w B cv x.code
theorem OwnAt.keeps {w w' : World} {B : Nat} {e : TypeId} {size : Nat} {v : Value} {rows : List (List Value)} (h : OwnAt w B e size v rows) {F : Nat → Prop} (k : Keeps F w w') (hF : ∀ j, F j → w.heap.size ≤ j ∨ ∃ cs t f, w.heap[j]? = some (.cells cs t f) ∧ e ≠ t) : OwnAt w' B e size v rows :=
  ⟨ownsRow_of h.1 (fun j hj => k.block j (h.1.lt j hj).2 (fun hf => by
    rcases hF j hf with h1 | ⟨cs, t, f, h1, h2⟩
    · have := (h.1.lt j hj).2; omega
    · exact kind_ne h.1 h1 h2 hj)), h.2⟩
theorem InsOwn.keeps {w w' : World} {B : Nat} {r : List Value} {x : InsL} (h : InsOwn w B r x) {F : Nat → Prop} (k : Keeps F w w') (hF : ∀ j, F j → w.heap.size ≤ j ∨ ∃ cs t f, w.heap[j]? = some (.cells cs t f) ∧ 3 ≠ t) : InsOwn w' B r x := by
  obtain ⟨lv, h1, h2, h3⟩ := h
  exact ⟨lv, h1, OwnAt.keeps h2 k hF, h3⟩
theorem CodeOwn.keeps {w w' : World} {B : Nat} {v : Value} {code : List InsL} (h : CodeOwn w B v code) {F : Nat → Prop} (k : Keeps F w w') (hF : ∀ j, F j → w.heap.size ≤ j ∨ ∃ cs t f, w.heap[j]? = some (.cells cs t f) ∧ 3 ≠ t ∧ 40 ≠ t) : CodeOwn w' B v code := by
  obtain ⟨rows, h1, h2, h3⟩ := h
  have hI : ∀ j, F j → w.heap.size ≤ j ∨ ∃ cs t f, w.heap[j]? = some (.cells cs t f) ∧ 40 ≠ t := fun j hj => (hF j hj).imp id (fun ⟨cs, t, f, a, _, c⟩ => ⟨cs, t, f, a, c⟩)
  have hJ : ∀ j, F j → w.heap.size ≤ j ∨ ∃ cs t f, w.heap[j]? = some (.cells cs t f) ∧ 3 ≠ t := fun j hj => (hF j hj).imp id (fun ⟨cs, t, f, a, b, _⟩ => ⟨cs, t, f, a, b⟩)
  exact ⟨rows, h1.keeps k hI, h2, fun i r x hr hx => (h3 i r x hr hx).keeps k hJ⟩
theorem FuncOwn.keeps {w w' : World} {B : Nat} {r : List Value} {x : FuncP} (h : FuncOwn w B r x) {F : Nat → Prop} (k : Keeps F w w') (hF : ∀ j, F j → w.heap.size ≤ j ∨ ∃ cs t f, w.heap[j]? = some (.cells cs t f) ∧ 3 ≠ t ∧ 40 ≠ t) : FuncOwn w' B r x := by
  obtain ⟨cv, h1, h2⟩ := h
  exact ⟨cv, h1, h2.keeps k hF⟩
theorem LabOwn.ints {w : World} {B : Nat} {v : Value} {zs : List Int} (h : LabOwn w B v zs) : IntsAt w v zs := by
  rcases h.1.2 with ⟨h1, h2⟩ | ⟨g, cap, cur, h1, _⟩
  · rw [List.length_map] at h2
    exact .inl ⟨h1, List.eq_nil_of_length_eq_zero h2⟩
  · have ho := h.1
    rw [h1] at ho
    rw [List.length_map] at h1
    refine .inr ⟨g, 0, cap, h1, (ho.lt g rfl).2, fun j z hz => ?_⟩
    have hj := (List.getElem?_eq_some_iff.1 hz).1
    rw [Nat.zero_add, ho.cellAt _ (by rw [List.length_map]; omega), flat_at (by omega) _ _ h.2]
    simp [List.getElem?_map, Nat.mod_one, hz]
theorem CodeOwn.at {w : World} {B : Nat} {v : Value} {code : List InsL} (h : CodeOwn w B v code) (hl : code.length ≤ 9223372036854775807) : CodeAt w v code := by
  obtain ⟨rows, h1, h2, h3⟩ := h
  refine ⟨rows, h1.row (by omega) (by omega), h2, fun i r x hr hx => ?_⟩
  obtain ⟨lv, e, ho, hw⟩ := h3 i r x hr hx
  exact ⟨lv, e, ho.ints, hw⟩
end Go.Proofs.YthkdegmnnbepdaaGreatDoor.Mod
