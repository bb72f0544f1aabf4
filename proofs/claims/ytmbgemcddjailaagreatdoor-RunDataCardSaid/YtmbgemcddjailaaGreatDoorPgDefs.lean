/-
  How a program that is made step by step lies in memory; what a method of it leaves as it was. Plain but for the shape of memory.
-/
import Derived.Test.YtmbgemcddjailaaGreatDoorModMem
import Derived.Test.YtmbgemcddjailaaGreatDoorPgPlain
namespace Go.Proofs.YtmbgemcddjailaaGreatDoor.Pg
open Go.RowKit Go.Maps Go.Proofs.YtmbgemcddjailaaGreatDoor.Op Go.Proofs.YtmbgemcddjailaaGreatDoor.Mod
set_option linter.unusedVariables false
/-- where it holds what it holds -/
structure Px where
  cv : Value
  sv : Value
  ov : Value
def Px.foot (bb : Nat) (x : Px) (k : Nat) : Prop := k = bb ∨ x.cv.ownBlock = some k ∨ x.sv.ownBlock = some k ∨ x.ov.ownBlock = some k
def boxV (x : Px) : Array Value := #[x.cv, x.sv, x.ov]
structure PAt (w : World) (B bb : Nat) (x : Px) (s : St) : Prop where
  box : w.heap[bb]? = some (.cells (boxV x) 89 (0, 0))
  low : B ≤ bb
  cod : w.ownsRow B 29 4 x.cv s.code.length (codeV s.code)
  stk : w.ownsRow B 5 1 x.sv s.stack.length (stackV s.stack)
  ope : w.ownsRow B 95 3 x.ov s.opens.length (openV s.opens)
theorem PAt.lt {w : World} {B bb : Nat} {x : Px} {s : St} (h : PAt w B bb x s) : bb < w.heap.size := (Array.getElem?_eq_some_iff.1 h.box).1
theorem PAt.foot_lt {w : World} {B bb : Nat} {x : Px} {s : St} (h : PAt w B bb x s) : ∀ k, x.foot bb k → B ≤ k ∧ k < w.heap.size := by
  intro k hk
  rcases hk with rfl | hk | hk | hk
  · exact ⟨h.low, h.lt⟩
  · exact h.cod.lt k hk
  · exact h.stk.lt k hk
  · exact h.ope.lt k hk
theorem PAt.kept {w w' : World} {B bb : Nat} {x : Px} {s : St} (h : PAt w B bb x s) (he : ∀ k, x.foot bb k → w'.heap[k]? = w.heap[k]?) : PAt w' B bb x s :=
  ⟨(he bb (.inl rfl)).trans h.box, h.low, ownsRow_of h.cod (fun k hk => he k (.inr (.inl hk))), ownsRow_of h.stk (fun k hk => he k (.inr (.inr (.inl hk)))), ownsRow_of h.ope (fun k hk => he k (.inr (.inr (.inr hk))))⟩
theorem PAt.later {w w' : World} {B bb : Nat} {x : Px} {s : St} (h : PAt w B bb x s) (hb : Below w.heap.size w w') : PAt w' B bb x s :=
  h.kept fun k hk => hb.block k (h.foot_lt k hk).2
theorem PAt.cells {w : World} {B bb : Nat} {cv sv ov : Value} {s : St} (h : PAt w B bb ⟨cv, sv, ov⟩ s) : w.cell? ⟨bb, 0, none⟩ = some cv ∧ w.cell? ⟨bb, 1, none⟩ = some sv ∧ w.cell? ⟨bb, 2, none⟩ = some ov := by
  have hb := h.box
  refine ⟨?_, ?_, ?_⟩ <;> (rw [cell_of_row w bb _ _ _ _ hb]; rfl)
theorem PAt.frozen {w : World} {B bb : Nat} {x : Px} {s : St} (h : PAt w B bb x s) (j : Nat) : w.frozen? ⟨bb, j, none⟩ = false := frozen_of_row w bb j _ _ h.box
theorem PAt.rest {w : World} {B bb : Nat} {x : Px} {s : St} (h : PAt w B bb x s) : (∀ k, x.cv.ownBlock = some k → k ≠ bb ∧ x.sv.ownBlock ≠ some k ∧ x.ov.ownBlock ≠ some k) ∧ (∀ k, x.sv.ownBlock = some k → k ≠ bb ∧ x.cv.ownBlock ≠ some k ∧ x.ov.ownBlock ≠ some k) ∧ (∀ k, x.ov.ownBlock = some k → k ≠ bb ∧ x.cv.ownBlock ≠ some k ∧ x.sv.ownBlock ≠ some k) := by
  refine ⟨fun k hk => ⟨?_, kinds_ne h.cod h.stk (by decide) k hk, kinds_ne h.cod h.ope (by decide) k hk⟩, fun k hk => ⟨?_, kinds_ne h.stk h.cod (by decide) k hk, kinds_ne h.stk h.ope (by decide) k hk⟩, fun k hk => ⟨?_, kinds_ne h.ope h.cod (by decide) k hk, kinds_ne h.ope h.stk (by decide) k hk⟩⟩
  · rintro rfl; exact kind_ne h.cod h.box (by decide) hk
  · rintro rfl; exact kind_ne h.stk h.box (by decide) hk
  · rintro rfl; exact kind_ne h.ope h.box (by decide) hk
/-- what a method leaves -/
def Upd (w : World) (B bb : Nat) (x : Px) (s : St) (w' : World) : Prop := ∃ x' : Px, PAt w' B bb x' s ∧ (∀ k, x'.foot bb k → x.foot bb k ∨ w.heap.size ≤ k) ∧ Keeps (x.foot bb) w w'
theorem Upd.same {w : World} {B bb : Nat} {x : Px} {s : St} (h : PAt w B bb x s) : Upd w B bb x s w := ⟨x, h, fun k hk => .inl hk, .refl _ _⟩
theorem Upd.below {w w' : World} {B bb : Nat} {x : Px} {s : St} (h : PAt w B bb x s) (hb : Below w.heap.size w w') : Upd w B bb x s w' := ⟨x, h.later hb, fun k hk => .inl hk, .of_below hb⟩
theorem Upd.trans {w w1 w2 : World} {B bb : Nat} {x x1 : Px} {s2 : St} (hf : ∀ k, x1.foot bb k → x.foot bb k ∨ w.heap.size ≤ k) (hk : Keeps (x.foot bb) w w1) (h : Upd w1 B bb x1 s2 w2) : Upd w B bb x s2 w2 := by
  obtain ⟨x2, h1, h2, h3⟩ := h
  refine ⟨x2, h1, fun k hx => ?_, hk.trans h3 hf⟩
  rcases h2 k hx with h4 | h4
  · exact hf k h4
  · exact .inr (Nat.le_trans hk.size h4)
theorem Upd.after {w wA w' : World} {B bb : Nat} {x : Px} {s : St} (hb : Below w.heap.size w wA) (u : Upd wA B bb x s w') : Upd w B bb x s w' :=
  Upd.trans (fun k hk => .inl hk) (.of_below hb) u
theorem Upd.from_base {w w' : World} {B bb : Nat} {x : Px} {s s' : St} (h0 : PAt w B bb x s) (hB : B ≤ w.heap.size) (h : Upd w B bb x s' w') : Below B w w' := by
  obtain ⟨x', _, _, h3⟩ := h
  exact h3.below (fun k hk => (h0.foot_lt k hk).1) hB
/-- .. and new blocks behind it -/
theorem Upd.then_ {w w1 w2 : World} {B bb : Nat} {x : Px} {s : St} (u : Upd w B bb x s w1) (hb : Below w1.heap.size w1 w2) : Upd w B bb x s w2 := by
  obtain ⟨x1, h1, h2, h3⟩ := u
  exact ⟨x1, h1.later hb, h2, h3.trans (Keeps.of_below hb) (fun j hj => .inl hj)⟩
theorem Upd.size {w w1 : World} {B bb : Nat} {x : Px} {s : St} (u : Upd w B bb x s w1) : w.heap.size ≤ w1.heap.size := by
  obtain ⟨_, _, _, h3⟩ := u
  exact h3.size
/-- a box that is not the program's stays -/
theorem Upd.cell {w w1 : World} {B bb : Nat} {x : Px} {s0 s : St} (h0 : PAt w B bb x s0) (u : Upd w B bb x s w1) {a : Addr} {v : Value} (hc : w.cell? a = some v) (hF : ¬ x.foot bb a.block) : w1.cell? a = some v := by
  obtain ⟨_, _, _, h3⟩ := u
  exact h3.cell hc hF
/-- a field stored anew: what lies there now -/
theorem PAt.setCod {w w1 : World} {B bb : Nat} {x : Px} {s : St} (h : PAt w B bb x s) {v' : Value} {l : List Ins} (g : w.grownBy w1 x.cv.ownBlock) (o : w1.ownsRow B 29 4 v' l.length (codeV l)) (hv : newBlock x.cv v' w) : Upd w B bb x { s with code := l } (w1.setCell ⟨bb, 0, none⟩ v') := by
  obtain ⟨r1, r2, r3⟩ := h.rest
  have hbx : w1.heap[bb]? = w.heap[bb]? := g.block bb h.lt (fun e => (r1 bb e.symm).1 rfl)
  have hold : ∀ k, k < w.heap.size → some k ≠ x.cv.ownBlock → k ≠ bb → (w1.setCell ⟨bb, 0, none⟩ v').heap[k]? = w.heap[k]? := fun k hk h1 h2 => (Below.heap_setCell _ _ _ _ h2).trans (g.block k hk h1)
  have hvb : ∀ k, v'.ownBlock = some k → k ≠ bb := fun k hk => by
    rcases hv k hk with h1 | h1
    · exact (r1 k h1).1
    · have := h.lt; omega
  refine ⟨{ x with cv := v' }, ⟨?_, h.low, ownsRow_of o (fun k hk => Below.heap_setCell _ _ _ _ (hvb k hk)), ownsRow_of h.stk (fun k hk => hold k (h.stk.lt k hk).2 (fun e => (r1 k e.symm).2.1 hk) (r2 k hk).1), ownsRow_of h.ope (fun k hk => hold k (h.ope.lt k hk).2 (fun e => (r1 k e.symm).2.2 hk) (r3 k hk).1)⟩, ?_, ?_⟩
  · rw [box_set (hbx.trans h.box)]
    rfl
  · rintro k (rfl | hk | hk | hk)
    · exact .inl (.inl rfl)
    · rcases hv k hk with h1 | h1
      · exact .inl (.inr (.inl h1))
      · exact .inr h1
    · exact .inl (.inr (.inr (.inl hk)))
    · exact .inl (.inr (.inr (.inr hk)))
  · exact (Keeps.grown g (fun k hk => .inr (.inl hk))).trans (Keeps.setCell (F := x.foot bb) _ _ _ (.inl rfl)) (fun j hj => .inl hj)
theorem PAt.setStk {w w1 : World} {B bb : Nat} {x : Px} {s : St} (h : PAt w B bb x s) {v' : Value} {l : List Nat} (g : w.grownBy w1 x.sv.ownBlock) (o : w1.ownsRow B 5 1 v' l.length (stackV l)) (hv : newBlock x.sv v' w) : Upd w B bb x { s with stack := l } (w1.setCell ⟨bb, 1, none⟩ v') := by
  obtain ⟨r1, r2, r3⟩ := h.rest
  have hbx : w1.heap[bb]? = w.heap[bb]? := g.block bb h.lt (fun e => (r2 bb e.symm).1 rfl)
  have hold : ∀ k, k < w.heap.size → some k ≠ x.sv.ownBlock → k ≠ bb → (w1.setCell ⟨bb, 1, none⟩ v').heap[k]? = w.heap[k]? := fun k hk h1 h2 => (Below.heap_setCell _ _ _ _ h2).trans (g.block k hk h1)
  have hvb : ∀ k, v'.ownBlock = some k → k ≠ bb := fun k hk => by
    rcases hv k hk with h1 | h1
    · exact (r2 k h1).1
    · have := h.lt; omega
  refine ⟨{ x with sv := v' }, ⟨?_, h.low, ownsRow_of h.cod (fun k hk => hold k (h.cod.lt k hk).2 (fun e => (r2 k e.symm).2.1 hk) (r1 k hk).1), ownsRow_of o (fun k hk => Below.heap_setCell _ _ _ _ (hvb k hk)), ownsRow_of h.ope (fun k hk => hold k (h.ope.lt k hk).2 (fun e => (r2 k e.symm).2.2 hk) (r3 k hk).1)⟩, ?_, ?_⟩
  · rw [box_set (hbx.trans h.box)]
    rfl
  · rintro k (rfl | hk | hk | hk)
    · exact .inl (.inl rfl)
    · exact .inl (.inr (.inl hk))
    · rcases hv k hk with h1 | h1
      · exact .inl (.inr (.inr (.inl h1)))
      · exact .inr h1
    · exact .inl (.inr (.inr (.inr hk)))
  · exact (Keeps.grown g (fun k hk => .inr (.inr (.inl hk)))).trans (Keeps.setCell (F := x.foot bb) _ _ _ (.inl rfl)) (fun j hj => .inl hj)
theorem PAt.setOpe {w w1 : World} {B bb : Nat} {x : Px} {s : St} (h : PAt w B bb x s) {v' : Value} {l : List Opn} (g : w.grownBy w1 x.ov.ownBlock) (o : w1.ownsRow B 95 3 v' l.length (openV l)) (hv : newBlock x.ov v' w) : Upd w B bb x { s with opens := l } (w1.setCell ⟨bb, 2, none⟩ v') := by
  obtain ⟨r1, r2, r3⟩ := h.rest
  have hbx : w1.heap[bb]? = w.heap[bb]? := g.block bb h.lt (fun e => (r3 bb e.symm).1 rfl)
  have hold : ∀ k, k < w.heap.size → some k ≠ x.ov.ownBlock → k ≠ bb → (w1.setCell ⟨bb, 2, none⟩ v').heap[k]? = w.heap[k]? := fun k hk h1 h2 => (Below.heap_setCell _ _ _ _ h2).trans (g.block k hk h1)
  have hvb : ∀ k, v'.ownBlock = some k → k ≠ bb := fun k hk => by
    rcases hv k hk with h1 | h1
    · exact (r3 k h1).1
    · have := h.lt; omega
  refine ⟨{ x with ov := v' }, ⟨?_, h.low, ownsRow_of h.cod (fun k hk => hold k (h.cod.lt k hk).2 (fun e => (r3 k e.symm).2.1 hk) (r1 k hk).1), ownsRow_of h.stk (fun k hk => hold k (h.stk.lt k hk).2 (fun e => (r3 k e.symm).2.2 hk) (r2 k hk).1), ownsRow_of o (fun k hk => Below.heap_setCell _ _ _ _ (hvb k hk))⟩, ?_, ?_⟩
  · rw [box_set (hbx.trans h.box)]
    rfl
  · rintro k (rfl | hk | hk | hk)
    · exact .inl (.inl rfl)
    · exact .inl (.inr (.inl hk))
    · exact .inl (.inr (.inr (.inl hk)))
    · rcases hv k hk with h1 | h1
      · exact .inl (.inr (.inr (.inr h1)))
      · exact .inr h1
  · exact (Keeps.grown g (fun k hk => .inr (.inr (.inr hk)))).trans (Keeps.setCell (F := x.foot bb) _ _ _ (.inl rfl)) (fun j hj => .inl hj)
/-- a value of the stack, stored in place -/
theorem PAt.inStk {w : World} {B bb : Nat} {x : Px} {s : St} (h : PAt w B bb x s) {g : Nat} (hg : x.sv.ownBlock = some g) {j k : Nat} (hj : j < s.stack.length) : Upd w B bb x { s with stack := s.stack.set j k } (w.setCell ⟨g, j, none⟩ (.int .u8 (k : Int))) := by
  obtain ⟨r1, r2, r3⟩ := h.rest
  obtain ⟨cap, hform⟩ : ∃ cap, x.sv = .slice (some ⟨g, 0, none⟩) s.stack.length cap := by
    obtain ⟨gg, cc, hf⟩ := Go.Joins.ownsRow_form h.stk (by omega)
    rw [hf] at hg
    simp [Value.ownBlock] at hg
    subst hg
    exact ⟨cc, hf⟩
  have hstk := h.stk
  rw [hform] at hstk
  have h1 := (hstk.stored j (.int .u8 (k : Int))).1
  have hold : ∀ q, q ≠ g → (w.setCell ⟨g, j, none⟩ (.int .u8 (k : Int))).heap[q]? = w.heap[q]? := fun q hq => Below.heap_setCell _ _ _ _ hq
  refine ⟨x, ⟨(hold bb (fun e => (r2 g hg).1 e.symm)).trans h.box, h.low, ownsRow_of h.cod (fun q hq => hold q (fun e => (r2 g hg).2.1 (e ▸ hq))), ?_, ownsRow_of h.ope (fun q hq => hold q (fun e => (r2 g hg).2.2 (e ▸ hq)))⟩, fun q hq => .inl hq, Keeps.setCell (F := x.foot bb) _ _ _ (.inr (.inr (.inl hg)))⟩
  rw [hform]
  show World.ownsRow _ _ _ _ _ (s.stack.set j k).length (stackV (s.stack.set j k))
  rw [List.length_set, show stackV (s.stack.set j k) = (stackV s.stack).set j (.int .u8 (k : Int)) by simp [stackV, List.map_set]]
  exact h1
theorem codeV_snoc (l : List Ins) (x : Ins) : codeV (l ++ [x]) = codeV l ++ x.cells := by simp [codeV]
theorem openV_snoc (l : List Opn) (x : Opn) : openV (l ++ [x]) = openV l ++ x.cells := by simp [openV]
theorem stackV_snoc (l : List Nat) (x : Nat) : stackV (l ++ [x]) = stackV l ++ [.int .u8 (x : Int)] := by simp [stackV]
theorem codeV_length (l : List Ins) : (codeV l).length = l.length * 4 := by
  induction l with
  | nil => rfl
  | cons a l ih => rw [show codeV (a :: l) = a.cells ++ codeV l from rfl, List.length_append, ih]; simp [Ins.cells]; omega
theorem openV_length (l : List Opn) : (openV l).length = l.length * 3 := by
  induction l with
  | nil => rfl
  | cons a l ih => rw [show openV (a :: l) = a.cells ++ openV l from rfl, List.length_append, ih]; simp [Opn.cells]; omega
theorem openV_at : ∀ (l : List Opn) (k j : Nat) (m : Opn), l[k]? = some m → j < 3 → (openV l)[k * 3 + j]? = m.cells[j]?
  | [], k, j, m, h, _ => by simp at h
  | a :: l, 0, j, m, h, hj => by
    simp at h
    subst h
    rw [show openV (a :: l) = a.cells ++ openV l from rfl, List.getElem?_append_left (by simp [Opn.cells]; omega)]
    simp
  | a :: l, k + 1, j, m, h, hj => by
    rw [show openV (a :: l) = a.cells ++ openV l from rfl, List.getElem?_append_right (by simp [Opn.cells]; omega), ← openV_at l k j m (by simpa using h) hj]
    simp [Opn.cells]
    rw [show (k + 1) * 3 + j - 3 = k * 3 + j by omega]
theorem codeV_at : ∀ (l : List Ins) (k j : Nat) (m : Ins), l[k]? = some m → j < 4 → (codeV l)[k * 4 + j]? = m.cells[j]?
  | [], k, j, m, h, _ => by simp at h
  | a :: l, 0, j, m, h, hj => by
    simp at h
    subst h
    rw [show codeV (a :: l) = a.cells ++ codeV l from rfl, List.getElem?_append_left (by simp [Ins.cells]; omega)]
    simp
  | a :: l, k + 1, j, m, h, hj => by
    rw [show codeV (a :: l) = a.cells ++ codeV l from rfl, List.getElem?_append_right (by simp [Ins.cells]; omega), ← codeV_at l k j m (by simpa using h) hj]
    simp [Ins.cells]
    rw [show (k + 1) * 4 + j - 4 = k * 4 + j by omega]
theorem one_ins (x : Ins) : ∀ u ∈ x.cells, u.oneCell' = true := by
  intro u hu
  simp [Ins.cells] at hu
  rcases hu with rfl | rfl | rfl | rfl <;> rfl
theorem one_opn (x : Opn) : ∀ u ∈ x.cells, u.oneCell' = true := by
  intro u hu
  simp [Opn.cells] at hu
  rcases hu with rfl | rfl | rfl <;> rfl
/-- the innermost block's cells -/
theorem PAt.lastOpen {w : World} {B bb : Nat} {x : Px} {s : St} (h : PAt w B bb x s) {l0 : List Opn} {b : Opn} (hs : s.opens = l0 ++ [b]) : ∃ g cap, x.ov = .slice (some ⟨g, 0, none⟩) (l0.length + 1) cap ∧ l0.length + 1 ≤ cap ∧ g < w.heap.size ∧ w.cell? ⟨g, l0.length * 3, none⟩ = some (.int .i64 b.op) ∧ w.cell? ⟨g, l0.length * 3 + 1, none⟩ = some (.int .u8 (b.res : Int)) ∧ w.cell? ⟨g, l0.length * 3 + 2, none⟩ = some (.int .i64 (b.height : Int)) ∧ ∀ j, w.frozen? ⟨g, j, none⟩ = false := by
  have hope := h.ope
  have hl : s.opens.length = l0.length + 1 := by rw [hs]; simp
  obtain ⟨g, cap, hf⟩ := Go.Joins.ownsRow_form hope (by omega)
  rw [hf, hl] at hope
  have hat : ∀ j, j < 3 → w.cell? ⟨g, l0.length * 3 + j, none⟩ = b.cells[j]? := fun j hj => by
    rw [hope.cellAt _ (by omega), openV_at s.opens l0.length j b (by rw [hs]; simp) hj]
  refine ⟨g, cap, by rw [hf, hl], ?_, (hope.lt g rfl).2, hat 0 (by decide), hat 1 (by decide), hat 2 (by decide), hope.frozenAt⟩
  rcases hope.2 with ⟨h', _⟩ | ⟨g', cap', cur, h', _, _, hc, _⟩
  · simp at h'
  · simp only [Value.slice.injEq] at h'
    omega
/-- of the stack: its form, its cells -/
theorem PAt.stackForm {w : World} {B bb : Nat} {x : Px} {s : St} (h : PAt w B bb x s) : ∃ a cap, x.sv = .slice a s.stack.length cap ∧ s.stack.length ≤ cap ∧ (0 < s.stack.length → ∃ g, a = some ⟨g, 0, none⟩ ∧ x.sv.ownBlock = some g ∧ g < w.heap.size ∧ (∀ (j k : Nat), s.stack[j]? = some k → w.cell? ⟨g, j, none⟩ = some (.int .u8 (k : Int))) ∧ ∀ j, w.frozen? ⟨g, j, none⟩ = false) := by
  have hs := h.stk
  rcases hs.2 with ⟨h1, h2⟩ | ⟨g, cap, cur, h1, _, _, hc, _⟩
  · exact ⟨none, 0, by rw [h1, h2], by omega, fun h => by omega⟩
  · rw [h1] at hs
    refine ⟨some ⟨g, 0, none⟩, cap, h1, hc, fun h0 => ⟨g, rfl, by rw [h1]; rfl, (hs.lt g rfl).2, fun j k hk => ?_, hs.frozenAt⟩⟩
    have hj := (List.getElem?_eq_some_iff.1 hk).1
    rw [hs.cellAt j (by omega)]
    simp [stackV, hk]
end Go.Proofs.YtmbgemcddjailaaGreatDoor.Pg
