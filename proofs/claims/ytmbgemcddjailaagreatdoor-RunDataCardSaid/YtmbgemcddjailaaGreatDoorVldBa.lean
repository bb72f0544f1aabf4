/-
  VldDefs, VldA, VldB, VldC, VldD, VldE in one.
-/
import Derived.Test.YtmbgemcddjailaaGreatDoorModMem
import Derived.Test.YtmbgemcddjailaaGreatDoorVldPl
import Derived.Test.YtmbgemcddjailaaGreatDoorOpW
import Derived.Deep.QuietTactic
import Derived.BigQuiet
import Derived.Lib.AppendStr
import Derived.BigRegion
import Derived.StillTailTactics
/- VldDefs: How the checker lies in memory; what a method of it leaves as it was. Plain but for the shape of memory. -/
namespace Go.Proofs.YtmbgemcddjailaaGreatDoor.Vld
open Go.RowKit Go.Maps Go.Proofs.YtmbgemcddjailaaGreatDoor.Op Go.Proofs.YtmbgemcddjailaaGreatDoor.Mod
set_option linter.unusedVariables false
/-- what the checker holds and never turns -/
structure Ce where
  t : Value
  f : Value
  me : Value
  g : Value
  e : Value
  st : Int
  d : Value
  locals : ByteArray
  result : ByteArray
  mb : Nat
/-- where its stack and its frames lie -/
structure Cx where
  sv : Value
  fv : Value
def stackV (l : List UInt8) : List Value := l.map fun (c : UInt8) => .int .u8 (c.toNat : Int)
def strB (l : List UInt8) : ByteArray := ⟨l.toArray⟩
def Fr.cells (x : Fr) : List Value := [.int .i64 x.op, .string (strB x.result), .int .i64 (x.height : Int), .bool x.dead]
def frameV (l : List Fr) : List Value := l.flatMap Fr.cells
def boxC (E : Ce) (x : Cx) (wr : Bool) : Array Value := #[E.t, E.f, E.me, E.g, E.e, .int .i64 E.st, E.d, .string E.locals, .string E.result, .map (some E.mb), x.sv, x.fv, .bool wr]
/-- what is kept of codes is what is known of them -/
def InfosOk (D : DataW Value) : Prop := IsMap D ∧ ∀ (code : Int) (z : DataW Value), Maps.has D (.int .i64 code) = true → D.atKey (.int .i64 code) z = .held ((opInfo code).getD zeroI).toV
/-- the map of infos -/
def InfosAt (w : World) (mb : Nat) (k : Nat) : Prop := ∃ n D, w.ownsMap Tryz.prog 3 asIs mb n D ∧ InfosOk D ∧ n ≤ k
def Cx.foot (cb : Nat) (E : Ce) (x : Cx) (k : Nat) : Prop := k = cb ∨ k = E.mb ∨ x.sv.ownBlock = some k ∨ x.fv.ownBlock = some k
structure CkAt (w : World) (B cb : Nat) (E : Ce) (x : Cx) (c : Ck) (k : Nat) : Prop where
  box : w.heap[cb]? = some (.cells (boxC E x c.wrong) 159 (0, 0))
  low : B ≤ cb ∧ B ≤ E.mb
  stk : w.ownsRow B 5 1 x.sv c.stack.length (stackV c.stack)
  frm : w.ownsRow B 156 4 x.fv c.frames.length (frameV c.frames)
  inf : InfosAt w E.mb k
theorem infos_block {w : World} {mb k : Nat} (h : InfosAt w mb k) : ∃ es cl, w.heap[mb]? = some (.map es cl) := by
  obtain ⟨n, D, ⟨es, clock, hb, _⟩, _⟩ := h
  exact ⟨es, clock, hb⟩
theorem InfosAt.of {w w' : World} {mb k : Nat} (h : InfosAt w mb k) (he : w'.heap[mb]? = w.heap[mb]?) : InfosAt w' mb k := by
  obtain ⟨n, D, h1, h2⟩ := h
  exact ⟨n, D, ownsMap_of h1 he, h2⟩
theorem CkAt.lt {w : World} {B cb : Nat} {E : Ce} {x : Cx} {c : Ck} {k : Nat} (h : CkAt w B cb E x c k) : cb < w.heap.size := (Array.getElem?_eq_some_iff.1 h.box).1
theorem CkAt.mlt {w : World} {B cb : Nat} {E : Ce} {x : Cx} {c : Ck} {k : Nat} (h : CkAt w B cb E x c k) : E.mb < w.heap.size := by
  obtain ⟨es, cl, hb⟩ := infos_block h.inf
  exact (Array.getElem?_eq_some_iff.1 hb).1
theorem CkAt.foot_lt {w : World} {B cb : Nat} {E : Ce} {x : Cx} {c : Ck} {k : Nat} (h : CkAt w B cb E x c k) : ∀ j, x.foot cb E j → B ≤ j ∧ j < w.heap.size := by
  intro j hj
  rcases hj with rfl | rfl | hj | hj
  · exact ⟨h.low.1, h.lt⟩
  · exact ⟨h.low.2, h.mlt⟩
  · exact h.stk.lt j hj
  · exact h.frm.lt j hj
theorem CkAt.kept {w w' : World} {B cb : Nat} {E : Ce} {x : Cx} {c : Ck} {k : Nat} (h : CkAt w B cb E x c k) (he : ∀ j, x.foot cb E j → w'.heap[j]? = w.heap[j]?) : CkAt w' B cb E x c k :=
  ⟨(he cb (.inl rfl)).trans h.box, h.low, ownsRow_of h.stk (fun j hj => he j (.inr (.inr (.inl hj)))), ownsRow_of h.frm (fun j hj => he j (.inr (.inr (.inr hj)))), h.inf.of (he _ (.inr (.inl rfl)))⟩
theorem CkAt.later {w w' : World} {B cb : Nat} {E : Ce} {x : Cx} {c : Ck} {k : Nat} (h : CkAt w B cb E x c k) (hb : Below w.heap.size w w') : CkAt w' B cb E x c k :=
  h.kept fun j hj => hb.block j (h.foot_lt j hj).2
theorem CkAt.fixed {w : World} {B cb : Nat} {E : Ce} {x : Cx} {c : Ck} {k : Nat} (h : CkAt w B cb E x c k) : w.cell? ⟨cb, 0, none⟩ = some E.t ∧ w.cell? ⟨cb, 1, none⟩ = some E.f ∧ w.cell? ⟨cb, 2, none⟩ = some E.me ∧ w.cell? ⟨cb, 3, none⟩ = some E.g ∧ w.cell? ⟨cb, 7, none⟩ = some (.string E.locals) ∧ w.cell? ⟨cb, 8, none⟩ = some (.string E.result) ∧ w.cell? ⟨cb, 9, none⟩ = some (.map (some E.mb)) := by
  have hb := h.box
  refine ⟨?_, ?_, ?_, ?_, ?_, ?_, ?_⟩ <;> (rw [cell_of_row w cb _ _ _ _ hb]; rfl)
theorem CkAt.cells {w : World} {B cb : Nat} {E : Ce} {x : Cx} {c : Ck} {k : Nat} (h : CkAt w B cb E x c k) : w.cell? ⟨cb, 10, none⟩ = some x.sv ∧ w.cell? ⟨cb, 11, none⟩ = some x.fv ∧ w.cell? ⟨cb, 12, none⟩ = some (.bool c.wrong) := by
  have hb := h.box
  refine ⟨?_, ?_, ?_⟩ <;> (rw [cell_of_row w cb _ _ _ _ hb]; rfl)
theorem CkAt.frozen {w : World} {B cb : Nat} {E : Ce} {x : Cx} {c : Ck} {k : Nat} (h : CkAt w B cb E x c k) (j : Nat) : w.frozen? ⟨cb, j, none⟩ = false := frozen_of_row w cb j _ _ h.box
theorem map_row_ne {w : World} {B : Nat} {e : TypeId} {size n : Nat} {v : Value} {xs : List Value} {mb k : Nat} (h : w.ownsRow B e size v n xs) (hm : InfosAt w mb k) : v.ownBlock ≠ some mb := by
  obtain ⟨n', D, h1, _⟩ := hm
  exact kind_ne_map h h1
theorem CkAt.rest {w : World} {B cb : Nat} {E : Ce} {x : Cx} {c : Ck} {k : Nat} (h : CkAt w B cb E x c k) : E.mb ≠ cb ∧ (∀ j, x.sv.ownBlock = some j → j ≠ cb ∧ j ≠ E.mb ∧ x.fv.ownBlock ≠ some j) ∧ (∀ j, x.fv.ownBlock = some j → j ≠ cb ∧ j ≠ E.mb ∧ x.sv.ownBlock ≠ some j) := by
  obtain ⟨es, cl, hb⟩ := infos_block h.inf
  refine ⟨fun e => ?_, fun j hj => ⟨?_, ?_, kinds_ne h.stk h.frm (by decide) j hj⟩, fun j hj => ⟨?_, ?_, kinds_ne h.frm h.stk (by decide) j hj⟩⟩
  · have h1 := h.box
    rw [← e, hb] at h1
    cases h1
  · rintro rfl; exact kind_ne h.stk h.box (by decide) hj
  · rintro rfl; exact map_row_ne h.stk h.inf hj
  · rintro rfl; exact kind_ne h.frm h.box (by decide) hj
  · rintro rfl; exact map_row_ne h.frm h.inf hj
/-- what a method leaves -/
def Upd (w : World) (B cb : Nat) (E : Ce) (x : Cx) (c : Ck) (k : Nat) (w' : World) : Prop := ∃ x' : Cx, CkAt w' B cb E x' c k ∧ (∀ j, x'.foot cb E j → x.foot cb E j ∨ w.heap.size ≤ j) ∧ Keeps (x.foot cb E) w w'
theorem Upd.same {w : World} {B cb : Nat} {E : Ce} {x : Cx} {c : Ck} {k : Nat} (h : CkAt w B cb E x c k) : Upd w B cb E x c k w := ⟨x, h, fun j hj => .inl hj, .refl _ _⟩
theorem Upd.below {w w' : World} {B cb : Nat} {E : Ce} {x : Cx} {c : Ck} {k : Nat} (h : CkAt w B cb E x c k) (hb : Below w.heap.size w w') : Upd w B cb E x c k w' := ⟨x, h.later hb, fun j hj => .inl hj, .of_below hb⟩
theorem Upd.trans {w w1 w2 : World} {B cb : Nat} {E : Ce} {x x1 : Cx} {c2 : Ck} {k2 : Nat} (hf : ∀ j, x1.foot cb E j → x.foot cb E j ∨ w.heap.size ≤ j) (hk : Keeps (x.foot cb E) w w1) (h : Upd w1 B cb E x1 c2 k2 w2) : Upd w B cb E x c2 k2 w2 := by
  obtain ⟨x2, h1, h2, h3⟩ := h
  refine ⟨x2, h1, fun j hj => ?_, hk.trans h3 hf⟩
  rcases h2 j hj with h4 | h4
  · exact hf j h4
  · exact .inr (Nat.le_trans hk.size h4)
theorem Upd.then_ {w w1 w2 : World} {B cb : Nat} {E : Ce} {x : Cx} {c : Ck} {k : Nat} (u : Upd w B cb E x c k w1) (hb : Below w1.heap.size w1 w2) : Upd w B cb E x c k w2 := by
  obtain ⟨x1, h1, h2, h3⟩ := u
  exact ⟨x1, h1.later hb, h2, h3.trans (Keeps.of_below hb) (fun j hj => .inl hj)⟩
theorem Upd.after {w wA w' : World} {B cb : Nat} {E : Ce} {x : Cx} {c : Ck} {k : Nat} (hb : Below w.heap.size w wA) (u : Upd wA B cb E x c k w') : Upd w B cb E x c k w' :=
  Upd.trans (fun j hj => .inl hj) (.of_below hb) u
theorem Upd.from_base {w w' : World} {B cb : Nat} {E : Ce} {x : Cx} {c c' : Ck} {k k' : Nat} (h0 : CkAt w B cb E x c k) (hB : B ≤ w.heap.size) (h : Upd w B cb E x c' k' w') : Below B w w' := by
  obtain ⟨x', _, _, h3⟩ := h
  exact h3.below (fun j hj => (h0.foot_lt j hj).1) hB
theorem Upd.size {w w1 : World} {B cb : Nat} {E : Ce} {x : Cx} {c : Ck} {k : Nat} (u : Upd w B cb E x c k w1) : w.heap.size ≤ w1.heap.size := by
  obtain ⟨_, _, _, h3⟩ := u
  exact h3.size
theorem stackV_snoc (l : List UInt8) (x : UInt8) : stackV (l ++ [x]) = stackV l ++ [.int .u8 (x.toNat : Int)] := by simp [stackV]
theorem stackV_app (l m : List UInt8) : stackV (l ++ m) = stackV l ++ stackV m := by simp [stackV]
theorem frameV_snoc (l : List Fr) (x : Fr) : frameV (l ++ [x]) = frameV l ++ x.cells := by simp [frameV]
theorem stackV_length (l : List UInt8) : (stackV l).length = l.length := by simp [stackV]
theorem frameV_length : ∀ l : List Fr, (frameV l).length = l.length * 4
  | [] => rfl
  | x :: l => by
    have := frameV_length l
    show (x.cells ++ frameV l).length = _
    rw [List.length_append, this]
    show 4 + l.length * 4 = (l.length + 1) * 4
    omega
theorem frameV_at : ∀ (l : List Fr) (i j : Nat) (x : Fr), l[i]? = some x → j < 4 → (frameV l)[i * 4 + j]? = x.cells[j]?
  | [], i, j, x, h, _ => by simp at h
  | y :: l, 0, j, x, h, hj => by
    obtain rfl : y = x := by simpa using h
    show (y.cells ++ frameV l)[0 * 4 + j]? = _
    rw [List.getElem?_append_left (by show _ < 4; omega)]
    congr 1
    omega
  | y :: l, i + 1, j, x, h, hj => by
    show (y.cells ++ frameV l)[(i + 1) * 4 + j]? = _
    rw [List.getElem?_append_right (by show 4 ≤ _; omega), show (i + 1) * 4 + j - y.cells.length = i * 4 + j by show (i + 1) * 4 + j - 4 = _; omega]
    exact frameV_at l i j x (by simpa using h) hj
theorem CkAt.setWrong {w : World} {B cb : Nat} {E : Ce} {x : Cx} {c : Ck} {k : Nat} (h : CkAt w B cb E x c k) (b : Bool) : Upd w B cb E x { c with wrong := b } k (w.setCell ⟨cb, 12, none⟩ (.bool b)) := by
  obtain ⟨r0, r1, r2⟩ := h.rest
  have hold : ∀ q, q ≠ cb → (w.setCell ⟨cb, 12, none⟩ (.bool b)).heap[q]? = w.heap[q]? := fun q hq => Below.heap_setCell _ _ _ _ hq
  refine ⟨x, ⟨?_, h.low, ownsRow_of h.stk (fun j hj => hold j (r1 j hj).1), ownsRow_of h.frm (fun j hj => hold j (r2 j hj).1), h.inf.of (hold _ r0)⟩, fun j hj => .inl hj, Keeps.setCell (F := x.foot cb E) _ _ _ (.inl rfl)⟩
  rw [box_set h.box]
  rfl
theorem CkAt.stkAt {w w1 : World} {B cb : Nat} {E : Ce} {x : Cx} {c : Ck} {k : Nat} (h : CkAt w B cb E x c k) {v' : Value} {l : List UInt8} (g : w.grownBy w1 x.sv.ownBlock) (o : w1.ownsRow B 5 1 v' l.length (stackV l)) (hv : newBlock x.sv v' w) : CkAt (w1.setCell ⟨cb, 10, none⟩ v') B cb E { x with sv := v' } { c with stack := l } k ∧ (∀ j, ({ x with sv := v' } : Cx).foot cb E j → x.foot cb E j ∨ w.heap.size ≤ j) ∧ Keeps (x.foot cb E) w (w1.setCell ⟨cb, 10, none⟩ v') := by
  obtain ⟨r0, r1, r2⟩ := h.rest
  have hne : ∀ j, x.sv.ownBlock = some j → j ≠ cb := fun j hj => (r1 j hj).1
  have hbx : w1.heap[cb]? = w.heap[cb]? := g.block cb h.lt (fun e => hne cb e.symm rfl)
  have hold : ∀ j, j < w.heap.size → some j ≠ x.sv.ownBlock → j ≠ cb → (w1.setCell ⟨cb, 10, none⟩ v').heap[j]? = w.heap[j]? := fun j hj h1 h2 => (Below.heap_setCell _ _ _ _ h2).trans (g.block j hj h1)
  have hvb : ∀ j, v'.ownBlock = some j → j ≠ cb := fun j hj => by
    rcases hv j hj with h1 | h1
    · exact hne j h1
    · have := h.lt; omega
  refine ⟨⟨?_, h.low, ownsRow_of o (fun j hj => Below.heap_setCell _ _ _ _ (hvb j hj)), ownsRow_of h.frm (fun j hj => hold j (h.frm.lt j hj).2 (fun e => (r2 j hj).2.2 e.symm) (r2 j hj).1), h.inf.of (hold _ h.mlt (fun e => (r1 _ e.symm).2.1 rfl) r0)⟩, ?_, ?_⟩
  · rw [box_set (hbx.trans h.box)]
    rfl
  · rintro j (rfl | rfl | hj | hj)
    · exact .inl (.inl rfl)
    · exact .inl (.inr (.inl rfl))
    · rcases hv j hj with h1 | h1
      · exact .inl (.inr (.inr (.inl h1)))
      · exact .inr h1
    · exact .inl (.inr (.inr (.inr hj)))
  · exact (Keeps.grown g (fun j hj => .inr (.inr (.inl hj)))).trans (Keeps.setCell (F := x.foot cb E) _ _ _ (.inl rfl)) (fun j hj => .inl hj)
theorem CkAt.setStk {w w1 : World} {B cb : Nat} {E : Ce} {x : Cx} {c : Ck} {k : Nat} (h : CkAt w B cb E x c k) {v' : Value} {l : List UInt8} (g : w.grownBy w1 x.sv.ownBlock) (o : w1.ownsRow B 5 1 v' l.length (stackV l)) (hv : newBlock x.sv v' w) : Upd w B cb E x { c with stack := l } k (w1.setCell ⟨cb, 10, none⟩ v') := ⟨_, h.stkAt g o hv⟩
theorem CkAt.setFrm {w w1 : World} {B cb : Nat} {E : Ce} {x : Cx} {c : Ck} {k : Nat} (h : CkAt w B cb E x c k) {v' : Value} {l : List Fr} (g : w.grownBy w1 x.fv.ownBlock) (o : w1.ownsRow B 156 4 v' l.length (frameV l)) (hv : newBlock x.fv v' w) : Upd w B cb E x { c with frames := l } k (w1.setCell ⟨cb, 11, none⟩ v') := by
  obtain ⟨r0, r1, r2⟩ := h.rest
  have hne : ∀ j, x.fv.ownBlock = some j → j ≠ cb := fun j hj => (r2 j hj).1
  have hbx : w1.heap[cb]? = w.heap[cb]? := g.block cb h.lt (fun e => hne cb e.symm rfl)
  have hold : ∀ j, j < w.heap.size → some j ≠ x.fv.ownBlock → j ≠ cb → (w1.setCell ⟨cb, 11, none⟩ v').heap[j]? = w.heap[j]? := fun j hj h1 h2 => (Below.heap_setCell _ _ _ _ h2).trans (g.block j hj h1)
  have hvb : ∀ j, v'.ownBlock = some j → j ≠ cb := fun j hj => by
    rcases hv j hj with h1 | h1
    · exact hne j h1
    · have := h.lt; omega
  refine ⟨{ x with fv := v' }, ⟨?_, h.low, ownsRow_of h.stk (fun j hj => hold j (h.stk.lt j hj).2 (fun e => (r1 j hj).2.2 e.symm) (r1 j hj).1), ownsRow_of o (fun j hj => Below.heap_setCell _ _ _ _ (hvb j hj)), h.inf.of (hold _ h.mlt (fun e => (r2 _ e.symm).2.1 rfl) r0)⟩, ?_, ?_⟩
  · rw [box_set (hbx.trans h.box)]
    rfl
  · rintro j (rfl | rfl | hj | hj)
    · exact .inl (.inl rfl)
    · exact .inl (.inr (.inl rfl))
    · exact .inl (.inr (.inr (.inl hj)))
    · rcases hv j hj with h1 | h1
      · exact .inl (.inr (.inr (.inr h1)))
      · exact .inr h1
  · exact (Keeps.grown g (fun j hj => .inr (.inr (.inr hj)))).trans (Keeps.setCell (F := x.foot cb E) _ _ _ (.inl rfl)) (fun j hj => .inl hj)
/-- a frame's field, stored in place -/
theorem CkAt.inFrm {w : World} {B cb : Nat} {E : Ce} {x : Cx} {c : Ck} {k : Nat} (h : CkAt w B cb E x c k) {g : Nat} (hg : x.fv.ownBlock = some g) (j : Nat) (u : Value) {l : List Fr} (hl : l.length = c.frames.length) (hp : 0 < c.frames.length) (hs : frameV l = (frameV c.frames).set j u) : CkAt (w.setCell ⟨g, j, none⟩ u) B cb E x { c with frames := l } k ∧ Keeps (x.foot cb E) w (w.setCell ⟨g, j, none⟩ u) := by
  obtain ⟨r0, r1, r2⟩ := h.rest
  obtain ⟨cap, hform⟩ : ∃ cap, x.fv = .slice (some ⟨g, 0, none⟩) c.frames.length cap := by
    obtain ⟨gg, cc, hf⟩ := Go.Joins.ownsRow_form h.frm hp
    rw [hf] at hg
    simp [Value.ownBlock] at hg
    subst hg
    exact ⟨cc, hf⟩
  have hfrm := h.frm
  rw [hform] at hfrm
  have h1 := (hfrm.stored j u).1
  have hold : ∀ q, q ≠ g → (w.setCell ⟨g, j, none⟩ u).heap[q]? = w.heap[q]? := fun q hq => Below.heap_setCell _ _ _ _ hq
  refine ⟨⟨(hold cb (fun e => (r2 g hg).1 e.symm)).trans h.box, h.low, ownsRow_of h.stk (fun q hq => hold q (fun e => (r2 g hg).2.2 (e ▸ hq))), ?_, h.inf.of (hold _ (fun e => (r2 g hg).2.1 e.symm))⟩, Keeps.setCell (F := x.foot cb E) _ _ _ (.inr (.inr (.inr hg)))⟩
  rw [hform]
  show World.ownsRow _ _ _ _ _ l.length (frameV l)
  rw [hl, hs]
  exact h1
theorem frameV_last (l0 : List Fr) (f f' : Fr) (j : Nat) (u : Value) (hj : j < 4) (h : f'.cells = f.cells.set j u) : frameV (l0 ++ [f']) = (frameV (l0 ++ [f])).set (l0.length * 4 + j) u := by
  rw [frameV_snoc, frameV_snoc, List.set_append_right _ _ (by rw [frameV_length]; omega), h, frameV_length, show l0.length * 4 + j - l0.length * 4 = j by omega]
/-- the innermost block's cells -/
theorem CkAt.lastFrm {w : World} {B cb : Nat} {E : Ce} {x : Cx} {c : Ck} {k : Nat} (h : CkAt w B cb E x c k) {l0 : List Fr} {f : Fr} (hs : c.frames = l0 ++ [f]) : ∃ g cap, x.fv = .slice (some ⟨g, 0, none⟩) (l0.length + 1) cap ∧ l0.length + 1 ≤ cap ∧ g < w.heap.size ∧ w.cell? ⟨g, l0.length * 4, none⟩ = some (.int .i64 f.op) ∧ w.cell? ⟨g, l0.length * 4 + 1, none⟩ = some (.string (strB f.result)) ∧ w.cell? ⟨g, l0.length * 4 + 2, none⟩ = some (.int .i64 (f.height : Int)) ∧ w.cell? ⟨g, l0.length * 4 + 3, none⟩ = some (.bool f.dead) ∧ ∀ j, w.frozen? ⟨g, j, none⟩ = false := by
  have hfrm := h.frm
  have hl : c.frames.length = l0.length + 1 := by rw [hs]; simp
  obtain ⟨g, cap, hf⟩ := Go.Joins.ownsRow_form hfrm (by omega)
  rw [hf, hl] at hfrm
  have hat : ∀ j, j < 4 → w.cell? ⟨g, l0.length * 4 + j, none⟩ = f.cells[j]? := fun j hj => by
    rw [hfrm.cellAt _ (by omega), frameV_at c.frames l0.length j f (by rw [hs]; simp) hj]
  refine ⟨g, cap, by rw [hf, hl], ?_, (hfrm.lt g rfl).2, hat 0 (by decide), hat 1 (by decide), hat 2 (by decide), hat 3 (by decide), hfrm.frozenAt⟩
  rcases hfrm.2 with ⟨h', _⟩ | ⟨g', cap', cur, h', _, _, hc, _⟩
  · simp at h'
  · simp only [Value.slice.injEq] at h'
    omega
/-- of the stack: its form, its cells -/
theorem CkAt.stackForm {w : World} {B cb : Nat} {E : Ce} {x : Cx} {c : Ck} {k : Nat} (h : CkAt w B cb E x c k) : ∃ a cap, x.sv = .slice a c.stack.length cap ∧ c.stack.length ≤ cap ∧ (0 < c.stack.length → ∃ g, a = some ⟨g, 0, none⟩ ∧ x.sv.ownBlock = some g ∧ g < w.heap.size ∧ (∀ (j : Nat) (t : UInt8), c.stack[j]? = some t → w.cell? ⟨g, j, none⟩ = some (.int .u8 (t.toNat : Int))) ∧ ∀ j, w.frozen? ⟨g, j, none⟩ = false) := by
  have hs := h.stk
  rcases hs.2 with ⟨h1, h2⟩ | ⟨g, cap, cur, h1, _, _, hc, _⟩
  · exact ⟨none, 0, by rw [h1, h2], by omega, fun h => by omega⟩
  · rw [h1] at hs
    refine ⟨some ⟨g, 0, none⟩, cap, h1, hc, fun h0 => ⟨g, rfl, by rw [h1]; rfl, (hs.lt g rfl).2, fun j t ht => ?_, hs.frozenAt⟩⟩
    have hj := (List.getElem?_eq_some_iff.1 ht).1
    rw [hs.cellAt j (by omega)]
    simp [stackV, ht]
theorem frames_cut {w : World} {B cb : Nat} {E : Ce} {x : Cx} {c : Ck} {k : Nat} (h : CkAt w B cb E x c k) {a : Option Addr} {cap m : Nat} (hx : x.fv = .slice a c.frames.length cap) (hm : m ≤ c.frames.length) : Upd w B cb E x { c with frames := c.frames.take m } k (w.setCell ⟨cb, 11, none⟩ (.slice a m cap)) := by
  have hs := h.frm
  rw [hx] at hs
  rcases hs.2 with ⟨h1, h2⟩ | ⟨g, cap', cur, h1, _⟩
  · simp only [Value.slice.injEq] at h1
    obtain ⟨rfl, hl, rfl⟩ := h1
    have hm0 : m = 0 := by omega
    subst hm0
    have hw : w.ownsRow B 156 4 (.slice none 0 0) (c.frames.take 0).length (frameV (c.frames.take 0)) := World.ownsRow_nil _ _ _ _
    exact h.setFrm (World.grownBy.refl w _) hw (fun k hk => by simp [Value.ownBlock] at hk)
  · simp only [Value.slice.injEq] at h1
    obtain ⟨rfl, _, rfl⟩ := h1
    have ht := ownsRow_take hs (m := m) hm
    have e : ∀ (l : List Fr) (m : Nat), frameV (l.take m) = (frameV l).take (m * 4) := by
      intro l
      induction l with
      | nil => intro m; simp [frameV]
      | cons a l ih =>
        intro m
        cases m with
        | zero => simp [frameV]
        | succ m =>
          rw [List.take_succ_cons]
          show a.cells ++ frameV (l.take m) = (a.cells ++ frameV l).take _
          rw [ih m, show (m + 1) * 4 = a.cells.length + m * 4 by show _ = 4 + m * 4; omega, List.take_append, show a.cells.take (a.cells.length + m * 4) = a.cells from List.take_of_length_le (by omega), show a.cells.length + m * 4 - a.cells.length = m * 4 by omega]
    have hl : (c.frames.take m).length = m := by rw [List.length_take]; omega
    have hw : w.ownsRow B 156 4 (.slice (some ⟨g, 0, none⟩) m cap) (c.frames.take m).length (frameV (c.frames.take m)) := by rw [e, hl]; exact ht
    exact h.setFrm (World.grownBy.refl w _) hw (fun k hk => .inl (by rw [hx]; exact hk))
theorem cutAt {w : World} {B cb : Nat} {E : Ce} {x : Cx} {c : Ck} {k : Nat} (h : CkAt w B cb E x c k) {a : Option Addr} {cap m : Nat} (hx : x.sv = .slice a c.stack.length cap) (hm : m ≤ c.stack.length) : CkAt (w.setCell ⟨cb, 10, none⟩ (.slice a m cap)) B cb E { x with sv := .slice a m cap } { c with stack := c.stack.take m } k ∧ (∀ j, ({ x with sv := .slice a m cap } : Cx).foot cb E j → x.foot cb E j ∨ w.heap.size ≤ j) ∧ Keeps (x.foot cb E) w (w.setCell ⟨cb, 10, none⟩ (.slice a m cap)) := by
  have hs := h.stk
  rw [hx] at hs
  rcases hs.2 with ⟨h1, h2⟩ | ⟨g, cap', cur, h1, _⟩
  · simp only [Value.slice.injEq] at h1
    obtain ⟨rfl, hl, rfl⟩ := h1
    have hm0 : m = 0 := by omega
    subst hm0
    have hw : w.ownsRow B 5 1 (.slice none 0 0) (c.stack.take 0).length (stackV (c.stack.take 0)) := World.ownsRow_nil _ _ _ _
    exact h.stkAt (World.grownBy.refl w _) hw (fun k hk => by simp [Value.ownBlock] at hk)
  · simp only [Value.slice.injEq] at h1
    obtain ⟨rfl, _, rfl⟩ := h1
    have ht := ownsRow_take hs (m := m) hm
    have e : stackV (c.stack.take m) = (stackV c.stack).take (m * 1) := by simp [stackV, List.map_take]
    have hl : (c.stack.take m).length = m := by rw [List.length_take]; omega
    have hw : w.ownsRow B 5 1 (.slice (some ⟨g, 0, none⟩) m cap) (c.stack.take m).length (stackV (c.stack.take m)) := by rw [e, hl]; exact ht
    exact h.stkAt (World.grownBy.refl w _) hw (fun k hk => .inl (by rw [hx]; exact hk))
theorem stack_cut {w : World} {B cb : Nat} {E : Ce} {x : Cx} {c : Ck} {k : Nat} (h : CkAt w B cb E x c k) {a : Option Addr} {cap m : Nat} (hx : x.sv = .slice a c.stack.length cap) (hm : m ≤ c.stack.length) : Upd w B cb E x { c with stack := c.stack.take m } k (w.setCell ⟨cb, 10, none⟩ (.slice a m cap)) := ⟨_, cutAt h hx hm⟩
end Go.Proofs.YtmbgemcddjailaaGreatDoor.Vld

/- VldA: What the checker's small methods do: want, top, pop, put. No condition beyond what each theorem names. -/
namespace Go.Proofs.YtmbgemcddjailaaGreatDoor.Vld
open Go.RowKit Go.Maps Go.Proofs.YtmbgemcddjailaaGreatDoor.Op Go.Proofs.YtmbgemcddjailaaGreatDoor.Mod
set_option linter.unusedVariables false
theorem below_drewN {B : Nat} {a w : World} (h : Below B a w) (n : Nat) : Below B a (w.drewN n) := ⟨h.os, h.tape, h.output, h.size, h.block⟩
def zeroFr : Value := .agg #[.int .i64 0, .string ⟨#[]⟩, .int .i64 0, .bool false]
theorem info_frame : (Tryz.prog.info? 156).map (fun i => (i.zero, i.size, i.bytes)) = some (some zeroFr, 4, 40) := by kernel_rfl
set_option maxRecDepth 100000 in
set_option maxHeartbeats 1000000 in
theorem want_any (ok : Bool) (w : World) (B cb : Nat) (E : Ce) (x : Cx) (c : Ck) (k : Nat) (h : CkAt w B cb E x c k) :
    Calls Tryz.prog 109 #[.pointer (some ⟨cb, 0, none⟩), .bool ok] w fun e w' => e = .returned (.tuple #[]) ∧ Upd w B cb E x (wantC c ok) k w' := by
  obtain ⟨_, _, c2⟩ := h.cells
  have fz := h.frozen 12
  have HU := Lib.hid (h.setWrong (c.wrong || !ok))
  obtain ⟨st, fs, wr⟩ := c
  have c3 : w.cell? ⟨cb, 12, none⟩ = some (.bool wr) := c2
  clear h c2
  cases wr
  · cases ok
    · go_enter Tryz.func109, Tryz.ntmps109
      go_wp2_with fail
      go_end0
      exact ⟨rfl, HU.out⟩
    · go_enter Tryz.func109, Tryz.ntmps109
      go_wp2_with fail
      go_end0
      exact ⟨rfl, HU.out⟩
  · go_enter Tryz.func109, Tryz.ntmps109
    go_wp2_with fail
    go_end0
    exact ⟨rfl, HU.out⟩
set_option maxRecDepth 100000 in
set_option maxHeartbeats 1000000 in
theorem top_any (w : World) (B cb : Nat) (E : Ce) (x : Cx) (c : Ck) (k : Nat) (h : CkAt w B cb E x c k) (g L cap : Nat) (hv : x.fv = .slice (some ⟨g, 0, none⟩) (L + 1) cap) (hL : L < 3000000000000) :
    Calls Tryz.prog 142 #[.pointer (some ⟨cb, 0, none⟩)] w fun e w' => e = .returned (.pointer (some ⟨g, L * 4, none⟩)) ∧ Below w.heap.size w w' := by
  obtain ⟨sv, fv⟩ := x
  have hv2 : fv = .slice (some ⟨g, 0, none⟩) (L + 1) cap := hv
  subst hv2
  obtain ⟨_, c1, _⟩ := h.cells
  have hwl : IntKind.i64.wrap (L : Int) = (L : Int) := IntWalk.i64_in _ (by omega)
  have hi0 : (0 : Int) ≤ (L : Int) := by omega
  have hi1 : (L : Int) < (L : Int) + 1 := by omega
  clear h hv
  go_enter Tryz.func142, Tryz.ntmps142
  go_wp2_with fail
  go_quiet (fail)
  go_wp2_with fail
  go_ret
  exact ⟨rfl, below_drewN (Below.refl _ _) _⟩
theorem pop_one {c : Ck} {l0 : List Fr} {f : Fr} (hs : c.frames = l0 ++ [f]) {L : Nat} {t : UInt8} (hl : c.stack.length = L + 1) (ht : c.stack[L]? = some t) (hh : f.height ≤ L) : popC c = ({ c with stack := c.stack.take L }, t) := by
  unfold popC
  rw [hs]
  simp only [List.getLast?_concat]
  rw [if_neg (by omega), List.dropLast_eq_take, hl, List.getLastD_eq_getLast?, List.getLast?_eq_getElem?, hl, Nat.add_sub_cancel, ht]
  rfl
theorem pop_none {c : Ck} {l0 : List Fr} {f : Fr} (hs : c.frames = l0 ++ [f]) (hh : c.stack.length ≤ f.height) : popC c = (wantC c f.dead, 0) := by
  unfold popC
  rw [hs]
  simp only [List.getLast?_concat]
  rw [if_pos hh]
set_option maxRecDepth 100000 in
theorem cut_bytes (a : Option Addr) (n cap m : Nat) (h : m ≤ cap) (w : World) : (Instr.slice 83 (.slice a n cap) none (some (.int .i64 m)) none).run Tryz.prog w = .ok (.slice a m cap) w := by
  rw [run_slice_h w 83 a n cap Tryz.underlying83 .i64 (m : Int) (by omega) (by omega)]
  have hs : (sizeOf (Tryz.prog.elem 83)).run Tryz.prog w = .ok 1 w := by kernel_rfl
  rw [hs]
  cases a <;> simp [Result.andThen, sliced, Addr.add]
set_option maxRecDepth 100000 in
theorem cut_frames (a : Option Addr) (n cap m : Nat) (h : m ≤ cap) (w : World) : (Instr.slice 157 (.slice a n cap) none (some (.int .i64 m)) none).run Tryz.prog w = .ok (.slice a m cap) w := by
  rw [run_slice_h w 157 a n cap Tryz.underlying157 .i64 (m : Int) (by omega) (by omega)]
  have hs : (sizeOf (Tryz.prog.elem 157)).run Tryz.prog w = .ok 4 w := by kernel_rfl
  rw [hs]
  cases a <;> simp [Result.andThen, sliced, Addr.add]
set_option maxRecDepth 100000 in
set_option maxHeartbeats 2000000 in
theorem pop_any (w : World) (B cb : Nat) (E : Ce) (x : Cx) (c : Ck) (k : Nat) (h : CkAt w B cb E x c k) (l0 : List Fr) (f : Fr) (hs : c.frames = l0 ++ [f]) (hh : f.height ≤ c.stack.length) (hS : c.stack.length < 3000000000000) (hF : c.frames.length < 3000000000000) :
    Calls Tryz.prog 108 #[.pointer (some ⟨cb, 0, none⟩)] w fun e w' => e = .returned (.int .u8 ((popC c).2.toNat : Int)) ∧ Upd w B cb E x (popC c).1 k w' := by
  obtain ⟨g, fcap, hv, hfc, hgl, d0, d1, d2, d3, _⟩ := h.lastFrm hs
  obtain ⟨a, cap, hx, hcap, hform⟩ := h.stackForm
  have hll : l0.length < 3000000000000 := by rw [hs] at hF; simp at hF; omega
  by_cases hlt : c.stack.length ≤ f.height
  · rw [pop_none hs hlt]
    have he : c.stack.length = f.height := by omega
    have hwl : IntKind.i64.wrap ((c.stack.length : Int) - 1) = (c.stack.length : Int) - 1 := IntWalk.i64_in _ (by omega)
    have hd : decide ((c.stack.length : Int) - 1 < (f.height : Int)) = true := decide_eq_true (by omega)
    have HT := Lib.hid (top_any w B cb E x c k h g l0.length fcap hv hll)
    have H := Lib.hid h
    obtain ⟨sv, fv⟩ := x
    have hx2 : sv = .slice a c.stack.length cap := hx
    subst hx2
    obtain ⟨c0, _, _⟩ := h.cells
    have HC := Lib.hid c0
    have HD2 := Lib.hid d2
    have HD3 := Lib.hid d3
    clear h hx hv hform hcap hfc d0 d1 d2 d3 c0
    go_enter Tryz.func108, Tryz.ntmps108
    go_wp2_with fail
    refine HT.out.mono ?_
    rintro e W1 ⟨rfl, b1⟩
    have c0 := cell_later b1 HC.out
    have d2 := cell_later b1 HD2.out
    have d3 := cell_later b1 HD3.out
    have H1 := Lib.hid (H.out.later b1)
    have B1 := Lib.hid b1
    clear b1
    go_wp2_with fail
    refine (want_any f.dead _ B cb E _ c k H1.out).mono ?_
    rintro e W2 ⟨rfl, u2⟩
    have U2 := Lib.hid u2
    clear u2
    go_wp2_with fail
    go_ret
    exact ⟨rfl, U2.out.after B1.out⟩
  · obtain ⟨L, hL⟩ : ∃ L, c.stack.length = L + 1 := ⟨c.stack.length - 1, by omega⟩
    obtain ⟨g2, rfl, hown, hgl2, hat, hfz⟩ := hform (by omega)
    obtain ⟨t, ht⟩ : ∃ t, c.stack[L]? = some t := ⟨_, List.getElem?_eq_getElem (by omega)⟩
    rw [pop_one hs hL ht (by omega)]
    have ct := hat L t ht
    have HT := Lib.hid (top_any w B cb E x c k h g l0.length fcap hv hll)
    have H := Lib.hid h
    obtain ⟨sv, fv⟩ := x
    have hx2 : sv = .slice (some ⟨g2, 0, none⟩) c.stack.length cap := hx
    subst hx2
    have hcut : ∀ W, CkAt W B cb E ⟨.slice (some ⟨g2, 0, none⟩) c.stack.length cap, fv⟩ c k → Upd W B cb E ⟨.slice (some ⟨g2, 0, none⟩) c.stack.length cap, fv⟩ { c with stack := c.stack.take L } k (W.setCell ⟨cb, 10, none⟩ (.slice (some ⟨g2, 0, none⟩) L cap)) := fun W hW => stack_cut hW rfl (by omega)
    have HCut := Lib.hid hcut
    obtain ⟨c0, _, _⟩ := h.cells
    have c0' : w.cell? ⟨cb, 10, none⟩ = some (.slice (some ⟨g2, 0, none⟩) (L + 1) cap) := by rw [← hL]; exact c0
    have fz := h.frozen 10
    have HC := Lib.hid c0'
    have HD2 := Lib.hid d2
    have HCT := Lib.hid ct
    have HFZ := Lib.hid fz
    have hcb := h.lt
    rw [hL] at hcap hS
    have hsl := cut_bytes (some ⟨g2, 0, none⟩) (L + 1) cap L (by omega)
    have hwl : IntKind.i64.wrap (L : Int) = (L : Int) := IntWalk.i64_in _ (by omega)
    have hd : decide ((L : Int) < (f.height : Int)) = false := decide_eq_false (by omega)
    have hi0 : (0 : Int) ≤ (L : Int) := by omega
    have hi1 : (L : Int) < (L : Int) + 1 := by omega
    clear h hx hv hform hfc d0 d1 d2 d3 c0 c0' hat hcut ht fz
    go_enter Tryz.func108, Tryz.ntmps108
    go_wp2_with fail
    refine HT.out.mono ?_
    rintro e W1 ⟨rfl, b1⟩
    have c0 := cell_later b1 HC.out
    have d2 := cell_later b1 HD2.out
    have ct := cell_later b1 HCT.out
    have fz : W1.frozen? ⟨cb, 10, none⟩ = false := by rw [b1.frozen (p := ⟨cb, 10, none⟩) hcb]; exact HFZ.out
    have HU := Lib.hid (HCut.out W1 (H.out.later b1))
    have B1 := Lib.hid b1
    clear b1
    go_wp2_with fail
    go_ret
    exact ⟨rfl, HU.out.after B1.out⟩
theorem strB_size (l : List UInt8) : (strB l).size = l.length := by simp [strB, ByteArray.size]
end Go.Proofs.YtmbgemcddjailaaGreatDoor.Vld

/- VldB: What the checker's methods do: take, put, kill. No condition beyond what each theorem names. -/
namespace Go.Proofs.YtmbgemcddjailaaGreatDoor.Vld
open Go.RowKit Go.Maps Go.Proofs.YtmbgemcddjailaaGreatDoor.Op Go.Proofs.YtmbgemcddjailaaGreatDoor.Mod
set_option linter.unusedVariables false
/-! what taking leaves -/
/-- of what was and is: the same frames, no fewer than the innermost block's height -/
structure Less (c c' : Ck) (f : Fr) : Prop where
  frames : c'.frames = c.frames
  height : f.height ≤ c'.stack.length
  length : c'.stack.length ≤ c.stack.length
theorem Less.refl {c : Ck} {f : Fr} (h : f.height ≤ c.stack.length) : Less c c f := ⟨rfl, h, Nat.le_refl _⟩
theorem Less.trans {a b c : Ck} {f : Fr} (h : Less a b f) (k : Less b c f) : Less a c f := ⟨k.frames.trans h.frames, k.height, Nat.le_trans k.length h.length⟩
theorem Less.want {c : Ck} {f : Fr} (h : f.height ≤ c.stack.length) (b : Bool) : Less c (wantC c b) f := ⟨rfl, h, Nat.le_refl _⟩
theorem Less.pop {c : Ck} {l0 : List Fr} {f : Fr} (hs : c.frames = l0 ++ [f]) (h : f.height ≤ c.stack.length) : Less c (popC c).1 f := by
  by_cases hlt : c.stack.length ≤ f.height
  · rw [pop_none hs hlt]; exact .want h _
  · unfold popC
    rw [hs]
    simp only [List.getLast?_concat]
    rw [if_neg hlt]
    refine ⟨hs.symm, ?_, ?_⟩ <;> (simp; try omega)
theorem Less.takeR {l0 : List Fr} {f : Fr} : ∀ (ts : List UInt8) {c : Ck}, c.frames = l0 ++ [f] → f.height ≤ c.stack.length → Less c (Vld.takeR ts c) f
  | [], c, hs, h => .refl h
  | t :: ts, c, hs, h => by
    have h1 := Less.pop hs h
    have h2 := h1.trans (Less.want h1.height ((popC c).2 == 0 || (popC c).2 == t))
    exact h2.trans (Less.takeR ts (h2.frames.trans hs) h2.height)
theorem Less.take {l0 : List Fr} {f : Fr} (ts : List UInt8) {c : Ck} (hs : c.frames = l0 ++ [f]) (h : f.height ≤ c.stack.length) : Less c (takeC ts c) f := Less.takeR _ hs h
theorem takeR_append : ∀ (a b : List UInt8) (c : Ck), takeR (a ++ b) c = takeR b (takeR a c)
  | [], b, c => rfl
  | t :: a, b, c => takeR_append a b _
theorem takeR_snoc {ts : List UInt8} {j : Nat} {t : UInt8} (h : ts[j]? = some t) (c : Ck) : takeR (ts.take (j + 1)) c = wantC (popC (takeR (ts.take j) c)).1 ((popC (takeR (ts.take j) c)).2 == 0 || (popC (takeR (ts.take j) c)).2 == t) := by
  rw [List.take_add_one, h, takeR_append]
  rfl
theorem byte_eq (a b : UInt8) : (((a.toNat : Nat) : Int) == ((b.toNat : Nat) : Int)) = (a == b) := by
  rw [Bool.eq_iff_iff]
  simp
  exact ⟨fun h => UInt8.toNat_inj.1 (by exact_mod_cast h), fun h => by rw [h]⟩
def RelT (w : World) (B cb : Nat) (E : Ce) (x : Cx) (c : Ck) (k : Nat) (S : ByteArray) (i : Value) (wr : World) : Prop :=
  ∃ j : Nat, j ≤ S.size ∧ i = .int .i64 ((S.size : Int) - 1 - (j : Int)) ∧ Upd w B cb E x (takeR (S.data.toList.reverse.take j) c) k wr
set_option maxRecDepth 100000 in
set_option maxHeartbeats 4000000 in
theorem take_any (S : ByteArray) (w : World) (B cb : Nat) (E : Ce) (x : Cx) (c : Ck) (k : Nat) (h : CkAt w B cb E x c k) (l0 : List Fr) (f : Fr) (hs : c.frames = l0 ++ [f]) (hh : f.height ≤ c.stack.length) (hS : c.stack.length < 3000000000000) (hF : c.frames.length < 3000000000000) (hz : S.size ≤ 9223372036854775807) :
    Calls Tryz.prog 106 #[.pointer (some ⟨cb, 0, none⟩), .string S] w fun e w' => e = .returned (.tuple #[]) ∧ Upd w B cb E x (takeC S.data.toList c) k w' := by
  obtain ⟨N, hN⟩ : ∃ N, S.size = N := ⟨_, rfl⟩
  have hNl : S.data.toList.length = N := by rw [← hN]; exact Array.length_toList
  have hwl : IntKind.i64.wrap ((N : Int) - 1) = (N : Int) - 1 := IntWalk.i64_in _ (by omega)
  have H := Lib.hid h
  have HS := Lib.hid hs
  have HN := Lib.hid hNl
  clear h hs
  go_enter Tryz.func106, Tryz.ntmps106
  go_wp2_with fail
  go_loopw [4] (fun i wr => RelT w B cb E x c k S i wr) (fun i _ => ((intOf i) + 1).toNat)
  case atStart => exact ⟨0, Nat.zero_le _, by rw [hN]; simp, Upd.same H.out⟩
  case round =>
    obtain ⟨j, hj, rfl, u⟩ := hrel
    obtain ⟨W1, rfl⟩ : ∃ W1, W1 = wr := ⟨_, rfl⟩
    rw [hN] at hj ⊢
    by_cases hlt : j < N
    · obtain ⟨i, hi⟩ : ∃ i, N = i + 1 + j := ⟨N - 1 - j, by omega⟩
      have hii : (N : Int) - 1 - (j : Int) = (i : Int) := by omega
      rw [hii]
      obtain ⟨b, hb⟩ : ∃ b, S.data.toList.reverse[j]? = some b := ⟨_, List.getElem?_eq_getElem (by rw [List.length_reverse]; omega)⟩
      have hSi : i < S.size := by omega
      have hx : S[i]'hSi = b := by
        rw [List.getElem?_reverse (by omega), hNl, show N - 1 - j = i by omega] at hb
        obtain ⟨_, h⟩ := List.getElem?_eq_some_iff.1 hb
        exact h
      have L1 := Less.takeR (S.data.toList.reverse.take j) HS.out hh
      obtain ⟨x1, a1, f1, k1⟩ := u
      obtain ⟨cj, hcj⟩ : ∃ cj, takeR (S.data.toList.reverse.take j) c = cj := ⟨_, rfl⟩
      have HJ := Lib.hid (takeR_snoc hb c)
      rw [hcj] at a1 L1 HJ
      have A1 := Lib.hid a1
      have F1 := Lib.hid f1
      have K1 := Lib.hid k1
      have LL := Lib.hid L1
      have HX := Lib.hid hx
      have hge : decide ((0 : Int) ≤ (i : Int)) = true := decide_eq_true (by omega)
      clear a1 f1 k1 hcj hb L1
      go_wp2_with fail
      refine (pop_any _ B cb E x1 cj k A1.out l0 f (LL.out.frames.trans HS.out) LL.out.height (by have := LL.out.length; omega) (by rw [LL.out.frames]; exact hF)).mono ?_
      rintro e W2 ⟨rfl, u2⟩
      obtain ⟨x2, a2, f2, k2⟩ := u2
      have A2 := Lib.hid a2
      have U2 := Lib.hid (show Upd W1 B cb E x1 _ k W2 from ⟨x2, a2, f2, k2⟩)
      have F2 := Lib.hid f2
      have K2 := Lib.hid k2
      clear a2 f2 k2
      obtain ⟨t, ht⟩ : ∃ t, (popC cj).2 = t := ⟨_, rfl⟩
      obtain ⟨cp, hcp⟩ : ∃ cp, (popC cj).1 = cp := ⟨_, rfl⟩
      rw [ht, hcp] at HJ
      rw [hcp] at A2 U2
      rw [ht]
      have e0 : (((t.toNat : Nat) : Int) == 0) = (t == 0) := byte_eq t 0
      have e1 : (((t.toNat : Nat) : Int) == ((b.toNat : Nat) : Int)) = (t == b) := byte_eq t b
      have hi0 : (0 : Int) ≤ (i : Int) := by omega
      have hi1 : (i : Int) < (S.size : Int) := by omega
      have hdone : ∀ W3, Upd W2 B cb E x2 (wantC cp (t == 0 || t == b)) k W3 → RelT w B cb E x c k S (.int .i64 ((i : Int) - 1)) W3 := fun W3 u3 => by
        refine ⟨j + 1, by omega, by congr 1; omega, ?_⟩
        rw [HJ.out]
        exact Upd.trans F1.out K1.out (Upd.trans F2.out K2.out u3)
      have HD := Lib.hid hdone
      have HI := Lib.hid hi
      have HII := Lib.hid hii
      clear hdone ht hcp hi hii
      have hwi : IntKind.i64.wrap ((i : Int) - 1) = (i : Int) - 1 := IntWalk.i64_in _ (by omega)
      cases ht0 : (t == 0)
      · rw [ht0] at e0 HD
        rw [Bool.false_or] at HD
        go_wp2_with fail
        refine (want_any (t == b) _ B cb E x2 cp k A2.out).mono ?_
        rintro e W3 ⟨rfl, u3⟩
        have U3 := Lib.hid u3
        clear u3
        go_wp2_with fail
        go_roundw
        case rel => exact HD.out _ U3.out
        case measure => have := HI.out; simp [intOf]; try omega
      · rw [ht0] at e0 HD
        rw [Bool.true_or] at HD
        go_wp2_with fail
        refine (want_any true _ B cb E x2 cp k A2.out).mono ?_
        rintro e W3 ⟨rfl, u3⟩
        have U3 := Lib.hid u3
        clear u3
        go_wp2_with fail
        go_roundw
        case rel => exact HD.out _ U3.out
        case measure => have := HI.out; simp [intOf]; try omega
    · obtain rfl : j = N := by omega
      have hge : decide ((0 : Int) ≤ (j : Int) - 1 - (j : Int)) = false := decide_eq_false (by omega)
      have U := Lib.hid u
      clear u
      go_wp2_with fail
      go_end0
      refine ⟨rfl, ?_⟩
      have := U.out
      rw [List.take_of_length_le (by rw [List.length_reverse]; omega)] at this
      exact this
theorem own_slice {w : World} {B : Nat} {e : TypeId} {size n : Nat} {v : Value} {xs : List Value} (h : w.ownsRow B e size v n xs) : ∃ a c, v = .slice a n c := by
  rcases h.2 with ⟨rfl, rfl⟩ | ⟨g, cap, cur, rfl, _⟩
  · exact ⟨none, 0, rfl⟩
  · exact ⟨_, _, rfl⟩
section
variable {P : Program} (w : World)
theorem run_append_str2 (base : Nat) (t u ty e : TypeId) (i : TypeInfo) (ht : P.underlying t = some (.slice e)) (hu : P.underlying u = some .string) (hi : P.info? e = some i) (hz : i.zero = some (.int .u8 0))
    (hsize : i.size = 1) (hby : i.bytes = 1)
    (v : Value) (n : Nat) (xs : List Value) (hown : w.ownsRow base e 1 v n xs) (s : ByteArray)
    (h63 : n + s.size ≤ maxLen) (hbytes : n + s.size ≤ 140737488355328) (hbase : base ≤ w.heap.size) :
    ∃ v' w', (Builtin.append_ #[t, u] ty #[v, .string s]).run P w = .ok v' w' ∧ w'.ownsRow base e 1 v' (n + s.size) (xs ++ Lib.strCells s) ∧ w.grownBy w' v.ownBlock ∧ newBlock v v' w := by
  obtain ⟨v', w', hr, h2, h3, h4⟩ := Lib.run_append_own_string (P := P) w base t u ty e i ht hu hi hz hsize hby v n xs hown s h63 hbytes hbase
  refine ⟨v', w', hr, h2, h3, ?_⟩
  have hxl : xs.length = n := by simpa using hown.1
  have hsmall : n + s.size ≤ 9223372036854775807 := by simp only [maxLen] at h63; omega
  rcases hown.2 with ⟨rfl, rfl⟩ | ⟨g, cap, cur, rfl, hbg, hg, hnc, hcm, hcs, htake⟩
  · by_cases hm : s.size = 0
    · rw [h4.2 ⟨rfl, hm⟩]
      intro k hk
      simp [Value.ownBlock] at hk
    · have hr2 := run_append_nil_string (P := P) w t u ty e i (.int .u8 0) ht hu hi hz s (by omega) (by omega) (by rw [hby]; omega)
      rw [hr] at hr2
      injection hr2 with e1 e2
      subst e1
      intro k hk
      exact .inr (by simp [Value.ownBlock] at hk; omega)
  · by_cases hroom : n + s.size ≤ cap
    · have hcs' : cur.size = cap := by simpa using hcs
      have hr2 := Lib.run_append_room_string (P := P) w t u ty e i ht hu hi hsize g n cap cur hg s hroom (by omega)
      rw [hr] at hr2
      injection hr2 with e1 e2
      subst e1
      intro k hk
      exact .inl hk
    · have holds : ∀ j u, xs[j]? = some u → w.cell? ((⟨g, 0, none⟩ : Addr).add j) = some u := hown.cells (g := g) rfl
      have hr2 := Lib.run_append_grow_string (P := P) w t u ty e i (.int .u8 0) ht hu hi hz ⟨g, 0, none⟩ n cap xs (by rw [hsize]; simpa using hxl) holds s (by omega) (by omega) (by rw [hby]; exact growslice_fits (by omega) (by omega))
      rw [hr] at hr2
      injection hr2 with e1 e2
      subst e1
      intro k hk
      exact .inr (by simp [Value.ownBlock] at hk; omega)
theorem wpList_append_str2 {ops : Array Oper} {rest : List Oper} {o : Oper} {a : Act} {Q : Exit → Act → World → Prop} (hgd : o.guard = none) (sl x : Operand) (t u : TypeId)
    (ho : o.op = .call { callee := .builtin .append, args := #[sl, x], argTypes := #[t, u] })
    (base : Nat) (e : TypeId) (i : TypeInfo) (ht : P.underlying t = some (.slice e)) (hu : P.underlying u = some .string) (hi : P.info? e = some i) (hz : i.zero = some (.int .u8 0))
    (hsize : i.size = 1) (hby : i.bytes = 1)
    (v : Value) (n : Nat) (xs : List Value) (hs : a.eval sl = v) (hown : w.ownsRow base e 1 v n xs) (s : ByteArray) (hx : a.eval x = .string s)
    (h63 : n + s.size ≤ maxLen) (hbytes : n + s.size ≤ 140737488355328) (hbase : base ≤ w.heap.size)
    (h : ∀ v' w', w'.ownsRow base e 1 v' (n + s.size) (xs ++ Lib.strCells s) → w.grownBy w' v.ownBlock → newBlock v v' w → wpList P ops Q rest (a.put o.dst v') w') : wpList P ops Q (o :: rest) a w := by
  refine wpList_plain hgd fun K hK => ?_
  obtain ⟨v', w', hr, h2, h3, h4⟩ := run_append_str2 (P := P) w base t u o.type e i ht hu hi hz hsize hby v n xs hown s h63 hbytes hbase
  unfold Oper.wp execOp
  simp only [ho, resolve, invoke, builtin, Sem.run_bind, Sem.run_pure, Result.andThen_ok, List.map_toArray, List.map_cons, List.map_nil, hs, hx, hr]
  exact hK _ _ (h v' w' h2 h3 h4)
end
theorem strCells_stack (S : ByteArray) : Lib.strCells S = stackV S.data.toList := rfl
theorem data_len (S : ByteArray) : S.data.toList.length = S.size := Array.length_toList
set_option maxRecDepth 100000 in
set_option maxHeartbeats 1000000 in
theorem put_any (S : ByteArray) (w : World) (B cb : Nat) (E : Ce) (x : Cx) (c : Ck) (k : Nat) (h : CkAt w B cb E x c k) (hB : B ≤ w.heap.size) (hS : c.stack.length < 3000000000000) (hz : S.size ≤ 1000000) :
    Calls Tryz.prog 107 #[.pointer (some ⟨cb, 0, none⟩), .string S] w fun e w' => e = .returned (.tuple #[]) ∧ Upd w B cb E x (putC S.data.toList c) k w' := by
  obtain ⟨i0, hi, hz0, hz1, hz2⟩ := info_of info_u8
  obtain ⟨sv, fv⟩ := x
  obtain ⟨c0, _, _⟩ := h.cells
  have fz := h.frozen 10
  have hbl := h.lt
  have H := Lib.hid h
  have HC4 := Lib.hid (show c.stack.length + S.size ≤ maxLen by unfold maxLen; omega)
  have HC5 := Lib.hid (show c.stack.length + S.size ≤ 140737488355328 by omega)
  have HB := Lib.hid hB
  have C0 := Lib.hid c0
  have hsf := own_slice h.stk
  obtain ⟨sa, sc, hsf⟩ := hsf
  have hsf2 : sv = .slice sa c.stack.length sc := hsf
  subst hsf2
  clear h hsf
  go_enter Tryz.func107, Tryz.ntmps107
  go_wp2_with (at_builtin; refine wpList_append_str2 _ rfl _ _ 83 9 rfl B 5 i0 Tryz.underlying83 Tryz.underlying9 hi hz0 hz1 hz2 _ _ _ rfl H.out.stk S rfl HC4.out HC5.out HB.out ?_)
  intro v' w1 hown hgrow hnb
  obtain ⟨a', cap', rfl⟩ := own_slice hown
  have hne : (Value.slice sa c.stack.length sc).ownBlock ≠ some cb := fun e => (H.out.rest.2.1 cb e).1 rfl
  have hbx : w1.heap[cb]? = w.heap[cb]? := hgrow.block cb H.out.lt (Ne.symm hne)
  have fz1 : w1.frozen? ⟨cb, 10, none⟩ = false := (World.frozen?_of_block (a := ⟨cb, 10, none⟩) hbx).trans (H.out.frozen 10)
  have cz : w1.cell? ⟨cb, 10, none⟩ = some (.slice sa c.stack.length sc) := (World.cell?_of_block (a := ⟨cb, 10, none⟩) hbx).trans C0.out
  have HU := Lib.hid (H.out.setStk (l := c.stack ++ S.data.toList) hgrow (by rw [stackV_app, List.length_append, data_len]; exact hown) hnb)
  clear hown hgrow hnb hne hbx c0
  go_wp2_with fail
  go_end0
  exact ⟨rfl, HU.out⟩
end Go.Proofs.YtmbgemcddjailaaGreatDoor.Vld

/- VldC: What the checker's methods do: kill, shut, open. No condition beyond what each theorem names. -/
namespace Go.Proofs.YtmbgemcddjailaaGreatDoor.Vld
open Go.RowKit Go.Maps Go.Proofs.YtmbgemcddjailaaGreatDoor.Op Go.Proofs.YtmbgemcddjailaaGreatDoor.Mod
set_option linter.unusedVariables false
theorem kill_eq {c : Ck} {l0 : List Fr} {f : Fr} (hs : c.frames = l0 ++ [f]) : killC c = { c with stack := c.stack.take f.height, frames := l0 ++ [{ f with dead := true }] } := by
  unfold killC
  rw [hs]
  simp [setTop]
theorem dead_row (l0 : List Fr) (f : Fr) : frameV (l0 ++ [{ f with dead := true }]) = (frameV (l0 ++ [f])).set (l0.length * 4 + 3) (.bool true) := frameV_last l0 f _ 3 _ (by decide) rfl
set_option maxRecDepth 100000 in
set_option maxHeartbeats 2000000 in
theorem kill_any (w : World) (B cb : Nat) (E : Ce) (x : Cx) (c : Ck) (k : Nat) (h : CkAt w B cb E x c k) (l0 : List Fr) (f : Fr) (hs : c.frames = l0 ++ [f]) (hh : f.height ≤ c.stack.length) (hS : c.stack.length < 3000000000000) (hF : c.frames.length < 3000000000000) :
    Calls Tryz.prog 139 #[.pointer (some ⟨cb, 0, none⟩)] w fun e w' => e = .returned (.tuple #[]) ∧ Upd w B cb E x (killC c) k w' := by
  rw [kill_eq hs]
  obtain ⟨g, fcap, hv, hfc, hgl, d0, d1, d2, d3, ffz⟩ := h.lastFrm hs
  obtain ⟨a, cap, hx, hcap, _⟩ := h.stackForm
  have hll : l0.length < 3000000000000 := by rw [hs] at hF; simp at hF; omega
  have HT := Lib.hid (top_any w B cb E x c k h g l0.length fcap hv hll)
  have H := Lib.hid h
  obtain ⟨sv, fv⟩ := x
  have hx2 : sv = .slice a c.stack.length cap := hx
  have hv2 : fv = .slice (some ⟨g, 0, none⟩) (l0.length + 1) fcap := hv
  subst hx2 hv2
  have hgc : g ≠ cb := (h.rest.2.2 g rfl).1
  obtain ⟨c0, _, _⟩ := h.cells
  have HC := Lib.hid c0
  have HD2 := Lib.hid d2
  have HD3 := Lib.hid d3
  have hcb := h.lt
  have HFZ := Lib.hid (h.frozen 10)
  have HFF := Lib.hid (ffz (l0.length * 4 + 3))
  have hsl := cut_bytes a c.stack.length cap f.height (by omega)
  have hA : ∀ W : World, CkAt W B cb E ⟨.slice a c.stack.length cap, .slice (some ⟨g, 0, none⟩) (l0.length + 1) fcap⟩ c k → Upd W B cb E ⟨.slice a c.stack.length cap, .slice (some ⟨g, 0, none⟩) (l0.length + 1) fcap⟩ { c with stack := c.stack.take f.height, frames := l0 ++ [{ f with dead := true }] } k ((W.setCell ⟨cb, 10, none⟩ (.slice a f.height cap)).setCell ⟨g, l0.length * 4 + 3, none⟩ (.bool true)) := fun W hW => by
    obtain ⟨h1, h2, h3⟩ := cutAt hW rfl hh
    obtain ⟨h4, h5⟩ := h1.inFrm (g := g) rfl (l0.length * 4 + 3) (.bool true) (l := l0 ++ [{ f with dead := true }]) (by simp [hs]) (by simp [hs]) (by show _ = (frameV c.frames).set _ _; rw [hs]; exact dead_row l0 f)
    exact ⟨_, h4, h2, h3.trans h5 h2⟩
  have hB : ∀ W : World, CkAt W B cb E ⟨.slice a c.stack.length cap, .slice (some ⟨g, 0, none⟩) (l0.length + 1) fcap⟩ c k → Upd W B cb E ⟨.slice a c.stack.length cap, .slice (some ⟨g, 0, none⟩) (l0.length + 1) fcap⟩ { c with stack := c.stack.take f.height, frames := l0 ++ [{ f with dead := true }] } k ((W.setCell ⟨g, l0.length * 4 + 3, none⟩ (.bool true)).setCell ⟨cb, 10, none⟩ (.slice a f.height cap)) := fun W hW => by
    obtain ⟨h4, h5⟩ := hW.inFrm (g := g) rfl (l0.length * 4 + 3) (.bool true) (l := l0 ++ [{ f with dead := true }]) (by simp [hs]) (by simp [hs]) (by rw [hs]; exact dead_row l0 f)
    obtain ⟨h1, h2, h3⟩ := cutAt h4 (m := f.height) rfl hh
    refine ⟨_, h1, fun j hj => (h2 j hj).imp id (fun h => Nat.le_trans h5.size h), h5.trans h3 (fun j hj => .inl hj)⟩
  have HA := Lib.hid hA
  have HB := Lib.hid hB
  clear h hx hv hfc d0 d1 d2 d3 c0 hA hB ffz
  go_enter Tryz.func139, Tryz.ntmps139
  go_wp2_with fail
  refine HT.out.mono ?_
  rintro e W1 ⟨rfl, b1⟩
  have c0 := cell_later b1 HC.out
  have d2 := cell_later b1 HD2.out
  have d3 := cell_later b1 HD3.out
  have fz : W1.frozen? ⟨cb, 10, none⟩ = false := by rw [b1.frozen (p := ⟨cb, 10, none⟩) hcb]; exact HFZ.out
  have ff : W1.frozen? ⟨g, l0.length * 4 + 3, none⟩ = false := by rw [b1.frozen (p := ⟨g, l0.length * 4 + 3, none⟩) hgl]; exact HFF.out
  have H1 := Lib.hid (H.out.later b1)
  have B1 := Lib.hid b1
  clear b1
  go_wp2_with fail
  go_region
  all_goals go_wp2_with fail
  all_goals go_end0
  all_goals first
    | exact ⟨rfl, ((HA.out _ H1.out).after B1.out).then_ (Below.refl _ _).drew⟩
    | exact ⟨rfl, ((HB.out _ H1.out).after B1.out).then_ (Below.refl _ _).drew⟩
end Go.Proofs.YtmbgemcddjailaaGreatDoor.Vld

/- VldD: What the checker's method open does. No condition beyond what each theorem names. -/
namespace Go.Proofs.YtmbgemcddjailaaGreatDoor.Vld
open Go.RowKit Go.Maps Go.Proofs.YtmbgemcddjailaaGreatDoor.Op Go.Proofs.YtmbgemcddjailaaGreatDoor.Mod
set_option linter.unusedVariables false
theorem one_fr (x : Fr) : ∀ u ∈ x.cells, u.oneCell' = true := by
  intro u hu
  simp [Fr.cells] at hu
  rcases hu with rfl | rfl | rfl | rfl <;> rfl
theorem conv_one (W : World) (b : Nat) (k : UInt8) (hc : W.cell? ⟨b, 0, none⟩ = some (.int .u8 (k.toNat : Int))) : (convert 83 9 (.slice (some ⟨b, 0, none⟩) 1 1)).run Tryz.prog W = .ok (.string ⟨#[k]⟩) W := by
  have h := run_convert_bytes_arg W 83 5 Tryz.underlying83 Tryz.underlying5 b 0 1 1 [(k.toNat : Int)] (by simp) (fun i hi => by
    obtain rfl : i = 0 := by omega
    exact hc) 9 Tryz.underlying9
  rw [h]
  simp [strOfNums]
/-- a frame put behind the others -/
theorem frm_end {w W0 w1 : World} {B cb : Nat} {E : Ce} {sv fv v' : Value} {c : Ck} {k : Nat} {o : Obj} {f : Fr} (hA : CkAt W0 B cb E ⟨sv, fv⟩ c k) (hb : Below w.heap.size w W0) (g : (W0.alloc o).drew.grownBy w1 fv.ownBlock) (own : w1.ownsRow B 156 4 v' (c.frames.length + 1) (frameV c.frames ++ f.cells)) (hnb : newBlock fv v' (W0.alloc o).drew) : Upd w B cb E ⟨sv, fv⟩ { c with frames := c.frames ++ [f] } k (w1.setCell ⟨cb, 11, none⟩ v') :=
  (hA.setFrm (drew_alloc g) (by rw [frameV_snoc, List.length_append]; exact own) (newBlock_mono hnb (by show W0.heap.size ≤ (W0.alloc o).heap.size; simp))).after hb
set_option maxRecDepth 100000 in
set_option maxHeartbeats 2000000 in
theorem open_64 (op : Int) (w : World) (B cb : Nat) (E : Ce) (x : Cx) (c : Ck) (k : Nat) (h : CkAt w B cb E x c k) (hB : B ≤ w.heap.size) (hS : c.stack.length < 3000000000000) (hF : c.frames.length < 3000000000000) :
    Calls Tryz.prog 140 #[.pointer (some ⟨cb, 0, none⟩), .int .i64 op, .int .i64 64] w fun e w' => e = .returned (.tuple #[]) ∧ Upd w B cb E x (openC op 64 c) k w' := by
  obtain ⟨i0, hi, hz0, hz1, hz2⟩ := info_of info_frame
  obtain ⟨a, cap, hx, hcap, _⟩ := h.stackForm
  obtain ⟨sv, fv⟩ := x
  have hx2 : sv = .slice a c.stack.length cap := hx
  subst hx2
  obtain ⟨c0, c1, _⟩ := h.cells
  have BW : Below w.heap.size w (w.alloc (.cells #[.int .i64 op, .string ⟨#[]⟩, .int .i64 (c.stack.length : Int), .bool false] 156)) := (Below.refl _ _).alloc (Nat.le_refl _) _
  have HA := Lib.hid (h.later BW)
  have HBW := Lib.hid BW
  have HR := Lib.hid (show (w.alloc (.cells #[.int .i64 op, .string ⟨#[]⟩, .int .i64 (c.stack.length : Int), .bool false] 156)).heap[w.heap.size]? = some (.cells #[.int .i64 op, .string ⟨#[]⟩, .int .i64 (c.stack.length : Int), .bool false] 156 (0, 0)) from heap_alloc_new w _)
  have HS := Lib.hid (show (w.alloc (.cells #[.int .i64 op, .string ⟨#[]⟩, .int .i64 (c.stack.length : Int), .bool false] 156)).heap.size = w.heap.size + 1 by simp)
  clear BW h hx hcap
  go_enter Tryz.func140, Tryz.ntmps140
  go_wp2_with fail
  obtain ⟨W0, hW0⟩ : ∃ W0, w.alloc (.cells #[.int .i64 op, .string ⟨#[]⟩, .int .i64 (c.stack.length : Int), .bool false] 156) = W0 := ⟨_, rfl⟩
  rw [hW0] at HA HBW HR HS ⊢
  clear hW0 c0 c1
  obtain ⟨_, c1, _⟩ := HA.out.cells
  have r0 : W0.cell? ⟨w.heap.size, 0, none⟩ = some (.int .i64 op) := cell_of_row W0 _ _ _ _ _ HR.out
  have r1 : W0.cell? ⟨w.heap.size, 1, none⟩ = some (.string ⟨#[]⟩) := cell_of_row W0 _ _ _ _ _ HR.out
  have r2 : W0.cell? ⟨w.heap.size, 2, none⟩ = some (.int .i64 (c.stack.length : Int)) := cell_of_row W0 _ _ _ _ _ HR.out
  have r3 : W0.cell? ⟨w.heap.size, 3, none⟩ = some (.bool false) := cell_of_row W0 _ _ _ _ _ HR.out
  have hbl : cb < W0.heap.size := HA.out.lt
  have hpl : w.heap.size < W0.heap.size := by rw [HS.out]; omega
  have fz := HA.out.frozen
  have HC := Lib.hid (show ∀ o : Obj, (W0.alloc o).ownsRow B 156 4 fv c.frames.length (frameV c.frames) from fun o => HA.out.frm.alloc o)
  have HL := Lib.hid (show c.frames.length + 1 ≤ maxLen by unfold maxLen; omega)
  have HY := Lib.hid (show (c.frames.length + 1) * 40 ≤ 140737488355328 by omega)
  have HZ := Lib.hid (show B ≤ (W0.alloc (.cells (Fr.cells ⟨op, [], c.stack.length, false⟩).toArray 156)).heap.size by have := HBW.out.size; simp; omega)
  have HN := Lib.hid (news_at W0 (Fr.cells ⟨op, [], c.stack.length, false⟩).toArray 156 (Fr.cells ⟨op, [], c.stack.length, false⟩) rfl)
  have HNE := Lib.hid (show fv.ownBlock ≠ some cb from fun e => (HA.out.rest.2.2 cb e).1 rfl)
  go_region_law ((refine step_append_own2 _ (by rfl) _ _ _ (by rfl) B 156 i0 zeroFr 4 40 Tryz.underlying157 hi hz0 hz1 hz2 rfl (by decide) fv c.frames.length (frameV c.frames) (by rfl) (HC.out _) ⟨W0.heap.size, 0, none⟩ 1 1 (Fr.cells ⟨op, [], c.stack.length, false⟩) (by rfl) rfl HN.out (one_fr _) (by decide) HL.out HY.out HZ.out ?_; intro g' cap' w1 hown hgrow hnb; have cz : w1.cell? ⟨cb, 11, none⟩ = some fv := hgrow.cell (a := ⟨cb, 11, none⟩) ((World.cell?_alloc_past _ _ _ hbl).trans c1) (Ne.symm HNE.out); have fz1 : w1.frozen? ⟨cb, 11, none⟩ = false := (World.frozen?_of_block (a := ⟨cb, 11, none⟩) (hgrow.block cb (by simp; omega) (Ne.symm HNE.out))).trans ((World.frozen?_alloc_past _ _ _ hbl).trans (fz 11))))
  all_goals
    have HU := Lib.hid (frm_end (f := ⟨op, [], c.stack.length, false⟩) HA.out HBW.out hgrow hown hnb)
    clear hgrow hown hnb
    go_wp2_with fail
    go_end0
    exact ⟨rfl, HU.out⟩
set_option maxRecDepth 100000 in
set_option maxHeartbeats 2000000 in
theorem open_ty (t : UInt8) (ht : t = 126 ∨ t = 127) (op : Int) (w : World) (B cb : Nat) (E : Ce) (x : Cx) (c : Ck) (k : Nat) (h : CkAt w B cb E x c k) (hB : B ≤ w.heap.size) (hS : c.stack.length < 3000000000000) (hF : c.frames.length < 3000000000000) :
    Calls Tryz.prog 140 #[.pointer (some ⟨cb, 0, none⟩), .int .i64 op, .int .i64 (t.toNat : Int)] w fun e w' => e = .returned (.tuple #[]) ∧ Upd w B cb E x (openC op (t.toNat : Int) c) k w' := by
  obtain ⟨i0, hi, hz0, hz1, hz2⟩ := info_of info_frame
  obtain ⟨a, cap, hx, hcap, _⟩ := h.stackForm
  obtain ⟨sv, fv⟩ := x
  have hx2 : sv = .slice a c.stack.length cap := hx
  subst hx2
  obtain ⟨c0, c1, _⟩ := h.cells
  obtain ⟨q, hq⟩ : ∃ q : Int, (t.toNat : Int) = q := ⟨_, rfl⟩
  have hq2 : (q == 64) = false := by rw [← hq]; rcases ht with rfl | rfl <;> rfl
  have hq3 : IntKind.u8.wrap q = q := by rw [← hq]; rcases ht with rfl | rfl <;> rfl
  have hk : kindL q = [t] := by rw [← hq]; rcases ht with rfl | rfl <;> rfl
  obtain ⟨WA, hWA⟩ : ∃ WA, w.alloc (.cells #[.int .i64 op, .string ⟨#[]⟩, .int .i64 (c.stack.length : Int), .bool false] 156) = WA := ⟨_, rfl⟩
  have hcv : (convert 83 9 (.slice (some ⟨w.heap.size + 1, 0, none⟩) 1 1)).run Tryz.prog (WA.alloc (.cells #[.int .u8 q] 5)) = .ok (.string ⟨#[t]⟩) (WA.alloc (.cells #[.int .u8 q] 5)) := conv_one _ _ t (by rw [World.cell?_alloc_at _ _ _ _ (by rw [← hWA]; simp), ← hq]; rfl)
  rw [← hWA] at hcv
  have BW : Below w.heap.size w ((w.alloc (.cells #[.int .i64 op, .string ⟨#[t]⟩, .int .i64 (c.stack.length : Int), .bool false] 156)).alloc (.cells #[.int .u8 q] 5)) := ((Below.refl _ _).alloc (Nat.le_refl _) _).alloc (by simp) _
  have HA := Lib.hid (h.later BW)
  have HBW := Lib.hid BW
  have HR := Lib.hid (show ((w.alloc (.cells #[.int .i64 op, .string ⟨#[t]⟩, .int .i64 (c.stack.length : Int), .bool false] 156)).alloc (.cells #[.int .u8 q] 5)).heap[w.heap.size]? = some (.cells #[.int .i64 op, .string ⟨#[t]⟩, .int .i64 (c.stack.length : Int), .bool false] 156 (0, 0)) from (heap_alloc_old _ _ (by simp)).trans (heap_alloc_new w _))
  have HS := Lib.hid (show ((w.alloc (.cells #[.int .i64 op, .string ⟨#[t]⟩, .int .i64 (c.stack.length : Int), .bool false] 156)).alloc (.cells #[.int .u8 q] 5)).heap.size = w.heap.size + 2 by simp)
  rw [hq]
  unfold openC
  rw [hk]
  clear BW h hx hcap hWA hq hk
  go_enter Tryz.func140, Tryz.ntmps140
  go_wp2_with fail
  obtain ⟨W0, hW0⟩ : ∃ W0, ((w.alloc (.cells #[.int .i64 op, .string ⟨#[t]⟩, .int .i64 (c.stack.length : Int), .bool false] 156)).alloc (.cells #[.int .u8 q] 5)) = W0 := ⟨_, rfl⟩
  rw [hW0] at HA HBW HR HS ⊢
  clear hW0 c0 c1 hcv
  obtain ⟨_, c1, _⟩ := HA.out.cells
  have r0 : W0.cell? ⟨w.heap.size, 0, none⟩ = some (.int .i64 op) := cell_of_row W0 _ _ _ _ _ HR.out
  have r1 : W0.cell? ⟨w.heap.size, 1, none⟩ = some (.string ⟨#[t]⟩) := cell_of_row W0 _ _ _ _ _ HR.out
  have r2 : W0.cell? ⟨w.heap.size, 2, none⟩ = some (.int .i64 (c.stack.length : Int)) := cell_of_row W0 _ _ _ _ _ HR.out
  have r3 : W0.cell? ⟨w.heap.size, 3, none⟩ = some (.bool false) := cell_of_row W0 _ _ _ _ _ HR.out
  have hbl : cb < W0.heap.size := HA.out.lt
  have hpl : w.heap.size < W0.heap.size := by rw [HS.out]; omega
  have fz := HA.out.frozen
  have HC := Lib.hid (show ∀ o : Obj, (W0.alloc o).ownsRow B 156 4 fv c.frames.length (frameV c.frames) from fun o => HA.out.frm.alloc o)
  have HL := Lib.hid (show c.frames.length + 1 ≤ maxLen by unfold maxLen; omega)
  have HY := Lib.hid (show (c.frames.length + 1) * 40 ≤ 140737488355328 by omega)
  have HZ := Lib.hid (show B ≤ (W0.alloc (.cells (Fr.cells ⟨op, [t], c.stack.length, false⟩).toArray 156)).heap.size by have := HBW.out.size; simp; omega)
  have HN := Lib.hid (news_at W0 (Fr.cells ⟨op, [t], c.stack.length, false⟩).toArray 156 (Fr.cells ⟨op, [t], c.stack.length, false⟩) rfl)
  have HNE := Lib.hid (show fv.ownBlock ≠ some cb from fun e => (HA.out.rest.2.2 cb e).1 rfl)
  go_region_law ((refine step_append_own2 _ (by rfl) _ _ _ (by rfl) B 156 i0 zeroFr 4 40 Tryz.underlying157 hi hz0 hz1 hz2 rfl (by decide) fv c.frames.length (frameV c.frames) (by rfl) (HC.out _) ⟨W0.heap.size, 0, none⟩ 1 1 (Fr.cells ⟨op, [t], c.stack.length, false⟩) (by rfl) rfl HN.out (one_fr _) (by decide) HL.out HY.out HZ.out ?_; intro g' cap' w1 hown hgrow hnb; have cz : w1.cell? ⟨cb, 11, none⟩ = some fv := hgrow.cell (a := ⟨cb, 11, none⟩) ((World.cell?_alloc_past _ _ _ hbl).trans c1) (Ne.symm HNE.out); have fz1 : w1.frozen? ⟨cb, 11, none⟩ = false := (World.frozen?_of_block (a := ⟨cb, 11, none⟩) (hgrow.block cb (by simp; omega) (Ne.symm HNE.out))).trans ((World.frozen?_alloc_past _ _ _ hbl).trans (fz 11))))
  all_goals
    have HU := Lib.hid (frm_end (f := ⟨op, [t], c.stack.length, false⟩) HA.out HBW.out hgrow hown hnb)
    clear hgrow hown hnb
    go_wp2_with fail
    go_end0
    exact ⟨rfl, HU.out⟩
end Go.Proofs.YtmbgemcddjailaaGreatDoor.Vld

/- VldE: What the checker's methods do: shut, label, local. No condition beyond what each theorem names. -/
namespace Go.Proofs.YtmbgemcddjailaaGreatDoor.Vld
open Go.RowKit Go.Maps Go.Proofs.YtmbgemcddjailaaGreatDoor.Op Go.Proofs.YtmbgemcddjailaaGreatDoor.Mod
set_option linter.unusedVariables false
theorem shut_eq2 {c : Ck} {f : Fr} : shutC f c = { wantC (takeC f.result c) ((takeC f.result c).stack.length == f.height) with stack := (takeC f.result c).stack.take f.height } := rfl
theorem len_eq (a b : Nat) : ((a : Int) == (b : Int)) = (a == b) := by
  rw [Bool.eq_iff_iff]
  simp
  omega
def frV (f : Fr) : Value := .agg #[.int .i64 f.op, .string (strB f.result), .int .i64 (f.height : Int), .bool f.dead]
/-- stores into a block that the call made itself -/
theorem Upd.sets {w W2 W5 W6 : World} {B cb : Nat} {E : Ce} {x : Cx} {c : Ck} {k : Nat} (hb : Below w.heap.size w W2) (hx : ∀ j, x.foot cb E j → j < w.heap.size) (u : Upd W2 B cb E x c k W5) (b : Nat) (h1 : w.heap.size ≤ b) (h2 : b < W2.heap.size) (hs : Keeps (fun j => j = b) W5 W6) : Upd w B cb E x c k W6 := by
  obtain ⟨x5, a5, f5, k5⟩ := u
  refine ⟨x5, a5.kept (fun j hj => hs.block j (a5.foot_lt j hj).2 (fun e => ?_)), fun j hj => (f5 j hj).imp id (fun h => Nat.le_trans hb.size h), ((Keeps.of_below (F := x.foot cb E) hb).trans k5 (fun j hj => .inl hj)).trans hs (fun j hj => .inr (by rw [hj]; exact h1))⟩
  rcases f5 j hj with h3 | h3
  · have := hx j h3; omega
  · omega
theorem four_sets (W : World) (b : Nat) (v0 v1 v2 v3 : Value) : Keeps (fun j => j = b) W ((((W.setCell ⟨b, 0, none⟩ v0).setCell ⟨b, 1, none⟩ v1).setCell ⟨b, 2, none⟩ v2).setCell ⟨b, 3, none⟩ v3) :=
  have h : ∀ (V : World) (j : Nat) (u : Value), Keeps (fun j => j = b) V (V.setCell ⟨b, j, none⟩ u) := fun V j u => Keeps.setCell V ⟨b, j, none⟩ u rfl
  (((h _ _ _).trans (h _ _ _) (fun j hj => .inl hj)).trans (h _ _ _) (fun j hj => .inl hj)).trans (h _ _ _) (fun j hj => .inl hj)
set_option maxRecDepth 100000 in
set_option maxHeartbeats 4000000 in
theorem shut_any (w : World) (B cb : Nat) (E : Ce) (x : Cx) (c : Ck) (k : Nat) (h : CkAt w B cb E x c k) (hB : B ≤ w.heap.size) (l0 : List Fr) (op : Int) (R : ByteArray) (H0 : Nat) (dd : Bool) (hs : c.frames = l0 ++ [⟨op, R.data.toList, H0, dd⟩]) (hh : H0 ≤ c.stack.length) (hS : c.stack.length < 3000000000000) (hF : c.frames.length < 3000000000000) (hz : R.size ≤ 1000000) :
    Calls Tryz.prog 141 #[.pointer (some ⟨cb, 0, none⟩)] w fun e w' => e = .returned (.agg #[.int .i64 op, .string R, .int .i64 (H0 : Int), .bool dd]) ∧ Upd w B cb E x (shutC ⟨op, R.data.toList, H0, dd⟩ c) k w' := by
  obtain ⟨g, fcap, hv, hfc, hgl, d0, d1, d2, d3, ffz⟩ := h.lastFrm hs
  have d1' : w.cell? ⟨g, l0.length * 4 + 1, none⟩ = some (.string R) := d1
  have hll : l0.length < 3000000000000 := by rw [hs] at hF; simp at hF; omega
  have hA : ∀ W, Below w.heap.size w W → CkAt W B cb E x c k := fun W hb => h.later hb
  have HA := Lib.hid hA
  have HT := Lib.hid (fun W (hb : Below w.heap.size w W) => top_any W B cb E x c k (h.later hb) g l0.length fcap hv hll)
  have HD0 := Lib.hid d0
  have HD1 := Lib.hid d1'
  have HD2 := Lib.hid d2
  have HD3 := Lib.hid d3
  have HS := Lib.hid hs
  have L3 := Less.take R.data.toList hs hh
  obtain ⟨c3, hc3⟩ : ∃ c3, takeC R.data.toList c = c3 := ⟨_, rfl⟩
  rw [shut_eq2]
  dsimp only
  rw [hc3] at L3 ⊢
  have HL3 := Lib.hid L3
  have HC3 := Lib.hid hc3
  clear h hv hfc d0 d1 d1' d2 d3 ffz hA hs L3 hc3
  go_enter Tryz.func141, Tryz.ntmps141
  go_wp2_with fail
  have b0 : Below w.heap.size w (w.alloc (.cells #[.int .i64 0, .string ⟨#[]⟩, .int .i64 0, .bool false] 156)) := (Below.refl _ _).alloc (Nat.le_refl _) _
  refine (HT.out _ b0).mono ?_
  rintro e W1 ⟨rfl, b1⟩
  have B1 := Lib.hid (b0.trans (b1.mono b0.size))
  have d0 := cell_later B1.out HD0.out
  have d1 := cell_later B1.out HD1.out
  have d2 := cell_later B1.out HD2.out
  have d3 := cell_later B1.out HD3.out
  have s0 : w.heap.size < W1.heap.size := by have := b1.size; simp at this; omega
  have r0 : W1.cell? ⟨w.heap.size, 0, none⟩ = some (.int .i64 0) := cell_later b1 (by simp)
  have r1 : W1.cell? ⟨w.heap.size, 1, none⟩ = some (.string ⟨#[]⟩) := cell_later b1 (by simp)
  have r2 : W1.cell? ⟨w.heap.size, 2, none⟩ = some (.int .i64 0) := cell_later b1 (by simp)
  have r3 : W1.cell? ⟨w.heap.size, 3, none⟩ = some (.bool false) := cell_later b1 (by simp)
  have fr : ∀ j, W1.frozen? ⟨w.heap.size, j, none⟩ = false := fun j => by rw [b1.frozen (p := ⟨w.heap.size, j, none⟩) (by show w.heap.size < _; simp)]; simp
  have R0 := Lib.hid r0
  have R1 := Lib.hid r1
  have R2 := Lib.hid r2
  have R3 := Lib.hid r3
  have FR := Lib.hid fr
  clear b1 r0 r1 r2 r3 fr b0
  go_wp2_with fail
  obtain ⟨W2, hW2⟩ : ∃ W2, W1.alloc (.cells #[.int .i64 op, .string R, .int .i64 (H0 : Int), .bool dd] 156) = W2 := ⟨_, rfl⟩
  rw [hW2]
  have B2 := Lib.hid (show Below w.heap.size w W2 by rw [← hW2]; exact B1.out.alloc B1.out.size _)
  have q0 : W2.cell? ⟨W1.heap.size, 0, none⟩ = some (.int .i64 op) := by rw [← hW2]; simp
  have q1 : W2.cell? ⟨W1.heap.size, 1, none⟩ = some (.string R) := by rw [← hW2]; simp
  have q2 : W2.cell? ⟨W1.heap.size, 2, none⟩ = some (.int .i64 (H0 : Int)) := by rw [← hW2]; simp
  have q3 : W2.cell? ⟨W1.heap.size, 3, none⟩ = some (.bool dd) := by rw [← hW2]; simp
  have r0 : W2.cell? ⟨w.heap.size, 0, none⟩ = some (.int .i64 0) := by rw [← hW2]; exact (World.cell?_alloc_past _ _ _ s0).trans R0.out
  have r1 : W2.cell? ⟨w.heap.size, 1, none⟩ = some (.string ⟨#[]⟩) := by rw [← hW2]; exact (World.cell?_alloc_past _ _ _ s0).trans R1.out
  have r2 : W2.cell? ⟨w.heap.size, 2, none⟩ = some (.int .i64 0) := by rw [← hW2]; exact (World.cell?_alloc_past _ _ _ s0).trans R2.out
  have r3 : W2.cell? ⟨w.heap.size, 3, none⟩ = some (.bool false) := by rw [← hW2]; exact (World.cell?_alloc_past _ _ _ s0).trans R3.out
  have fr : ∀ j, W2.frozen? ⟨w.heap.size, j, none⟩ = false := fun j => by rw [← hW2]; exact (World.frozen?_alloc_past _ _ _ s0).trans (FR.out j)
  have s1 : W1.heap.size < W2.heap.size := by rw [← hW2]; simp
  have HFT := Lib.hid (show ∀ j, x.foot cb E j → j < w.heap.size from fun j hj => ((HA.out w (Below.refl _ _)).foot_lt j hj).2)
  have A2 := Lib.hid (HA.out W2 B2.out)
  clear hW2 d0 d1 d2 d3 R0 R1 R2 R3 FR
  go_wp2_with fail
  refine (take_any R _ B cb E x c k A2.out l0 _ HS.out hh hS hF (by omega)).mono ?_
  rintro e W3 ⟨rfl, u3⟩
  have L3 := HL3.out
  rw [HC3.out] at u3
  obtain ⟨x3, a3, f3, k3⟩ := u3
  have hne1 : ¬ x.foot cb E W1.heap.size := fun hf => by have := HFT.out _ hf; omega
  have hne0 : ¬ x.foot cb E w.heap.size := fun hf => by have := HFT.out _ hf; omega
  have p0 := k3.cell q0 hne1
  have p1 := k3.cell q1 hne1
  have p2 := k3.cell q2 hne1
  have p3 := k3.cell q3 hne1
  have t0 := k3.cell r0 hne0
  have t1 := k3.cell r1 hne0
  have t2 := k3.cell r2 hne0
  have t3 := k3.cell r3 hne0
  have tf : ∀ j, W3.frozen? ⟨w.heap.size, j, none⟩ = false := fun j => (World.frozen?_of_block (a := ⟨w.heap.size, j, none⟩) (k3.block w.heap.size (by omega) hne0)).trans (fr j)
  obtain ⟨sa, sc, hx3, hcap3, _⟩ := a3.stackForm
  obtain ⟨sv3, fv3⟩ := x3
  have hx3' : sv3 = .slice sa c3.stack.length sc := hx3
  subst hx3'
  obtain ⟨c10, _, _⟩ := a3.cells
  have A3 := Lib.hid a3
  have F3 := Lib.hid f3
  have K3 := Lib.hid k3
  have LL := Lib.hid L3
  have C10 := Lib.hid c10
  have hl3 : c3.stack.length < 3000000000000 := by have := L3.length; omega
  have hh3 : H0 ≤ c3.stack.length := L3.height
  have hd : ((c3.stack.length : Int) == (H0 : Int)) = (c3.stack.length == H0) := len_eq _ _
  have S3 := Lib.hid (show W2.heap.size ≤ W3.heap.size from k3.size)
  have P0 := Lib.hid p0
  have P1 := Lib.hid p1
  have P2 := Lib.hid p2
  have P3 := Lib.hid p3
  have T0 := Lib.hid t0
  have T1 := Lib.hid t1
  have T2 := Lib.hid t2
  have T3 := Lib.hid t3
  have TF := Lib.hid tf
  clear a3 f3 k3 L3 q0 q1 q2 q3 r0 r1 r2 r3 fr hx3 p0 p1 p3 t0 t1 t2 t3 tf
  go_wp2_with fail
  go_still_tail 9, (by kernel_rfl)
  change wpList _ _ _ _ _ W3.drew
  have c10d : W3.drew.cell? ⟨cb, 10, none⟩ = some (.slice sa c3.stack.length sc) := c10
  have p2d : W3.drew.cell? ⟨W1.heap.size, 2, none⟩ = some (.int .i64 (H0 : Int)) := p2
  clear c10 p2
  go_wp2_with fail
  refine (want_any (c3.stack.length == H0) W3.drew B cb E _ c3 k (A3.out.later (Below.refl _ _).drew)).mono ?_
  rintro e W4 ⟨rfl, u4⟩
  obtain ⟨x4, a4, f4, k4⟩ := u4
  have f4' : ∀ j, x4.foot cb E j → x.foot cb E j ∨ W2.heap.size ≤ j := fun j hj => by
    rcases f4 j hj with h1 | h1
    · exact F3.out j h1
    · exact .inr (Nat.le_trans S3.out h1)
  have k4' : Keeps (x.foot cb E) W2 W4 := (K3.out.trans (Keeps.of_below (F := x.foot cb E) (Below.refl _ _).drew) (fun j hj => .inl hj)).trans k4 (fun j hj => F3.out j hj)
  have e1 : ∀ j v, W3.cell? ⟨W1.heap.size, j, none⟩ = some v → W4.cell? ⟨W1.heap.size, j, none⟩ = some v := fun j v hv => k4.cell hv (fun hf => by rcases F3.out W1.heap.size hf with h1 | h1; exact hne1 h1; omega)
  have e0 : ∀ j v, W3.cell? ⟨w.heap.size, j, none⟩ = some v → W4.cell? ⟨w.heap.size, j, none⟩ = some v := fun j v hv => k4.cell hv (fun hf => by rcases F3.out w.heap.size hf with h1 | h1; exact hne0 h1; omega)
  have g4 : ∀ j, W4.frozen? ⟨w.heap.size, j, none⟩ = false := fun j => (World.frozen?_of_block (a := ⟨w.heap.size, j, none⟩) (k4.block w.heap.size (by have := S3.out; show _ < W3.heap.size; omega) (fun hf => by rcases F3.out _ hf with h1 | h1; exact hne0 h1; omega))).trans (TF.out j)
  have hn1 : ¬ x4.foot cb E W1.heap.size := fun hf => by rcases f4' _ hf with h1 | h1; exact hne1 h1; omega
  have hn0 : ¬ x4.foot cb E w.heap.size := fun hf => by rcases f4' _ hf with h1 | h1; exact hne0 h1; omega
  obtain ⟨sa4, sc4, hx4, hcap4, _⟩ := a4.stackForm
  obtain ⟨sv4, fv4⟩ := x4
  have hx4' : sv4 = .slice sa4 c3.stack.length sc4 := hx4
  subst hx4'
  obtain ⟨c10, _, _⟩ := a4.cells
  have hU5 := stack_cut (a4.later (Below.refl _ _).drew) (a := sa4) (cap := sc4) (m := H0) hx4 hh3
  have p0 := e1 _ _ P0.out
  have p1 := e1 _ _ P1.out
  have p2 := e1 _ _ P2.out
  have p3 := e1 _ _ P3.out
  have t0 := e0 _ _ T0.out
  have t1 := e0 _ _ T1.out
  have t2 := e0 _ _ T2.out
  have t3 := e0 _ _ T3.out
  obtain ⟨x5, a5, f5, k5⟩ := hU5
  have P0 := Lib.hid (k5.cell (show W4.drew.cell? ⟨W1.heap.size, 0, none⟩ = _ from p0) hn1)
  have P1 := Lib.hid (k5.cell (show W4.drew.cell? ⟨W1.heap.size, 1, none⟩ = _ from p1) hn1)
  have P2 := Lib.hid (k5.cell (show W4.drew.cell? ⟨W1.heap.size, 2, none⟩ = _ from p2) hn1)
  have P3 := Lib.hid (k5.cell (show W4.drew.cell? ⟨W1.heap.size, 3, none⟩ = _ from p3) hn1)
  have T0 := Lib.hid (k5.cell (show W4.drew.cell? ⟨w.heap.size, 0, none⟩ = _ from t0) hn0)
  have T1 := Lib.hid (k5.cell (show W4.drew.cell? ⟨w.heap.size, 1, none⟩ = _ from t1) hn0)
  have T2 := Lib.hid (k5.cell (show W4.drew.cell? ⟨w.heap.size, 2, none⟩ = _ from t2) hn0)
  have T3 := Lib.hid (k5.cell (show W4.drew.cell? ⟨w.heap.size, 3, none⟩ = _ from t3) hn0)
  have S4 : W3.heap.size ≤ W4.heap.size := k4.size
  have TF := Lib.hid (fun j => (World.frozen?_of_block (a := ⟨w.heap.size, j, none⟩) (k5.block w.heap.size (by have := S3.out; show _ < W4.heap.size; omega) hn0)).trans (g4 j))
  have HU := Lib.hid (show Upd W2 B cb E x _ k _ from Upd.trans f4' k4' (Upd.after (Below.refl _ _).drew ⟨x5, a5, f5, k5⟩))
  have hcap4' : c3.stack.length ≤ sc4 := hcap4
  have hsl := cut_bytes sa4 c3.stack.length sc4 H0 (by omega)
  have fz10 := a4.frozen 10
  have FZ10 := Lib.hid fz10
  have C10 := Lib.hid c10
  have Q2 := Lib.hid p2
  have HB2 := Lib.hid (show ∀ W6, Keeps (fun j => j = w.heap.size) _ W6 → Upd w B cb E x _ k W6 from fun W6 hK => Upd.sets B2.out HFT.out HU.out w.heap.size (Nat.le_refl _) (by omega) hK)
  clear e0 e1 g4 f4 k4 f4' k4' hn1 hn0 a4 hx4 hcap4 a5 f5 k5 p0 p1 p2 p3 t0 t1 t2 t3 c10 c10d p2d fz10
  have c10 := C10.out
  have p2 := Q2.out
  go_wp2_with fail
  go_still_tail 10, (by kernel_rfl)
  change wpList _ _ _ _ _ W4.drew
  have c10d : W4.drew.cell? ⟨cb, 10, none⟩ = some (.slice sa4 c3.stack.length sc4) := C10.out
  have p2d : W4.drew.cell? ⟨W1.heap.size, 2, none⟩ = some (.int .i64 (H0 : Int)) := Q2.out
  have fzd : W4.drew.frozen? ⟨cb, 10, none⟩ = false := FZ10.out
  clear c10 p2
  go_upto_region 5 with fail
  rw [show W4.drew.setCell ⟨cb, 10, none⟩ (.slice sa4 H0 sc4) = (W4.setCell ⟨cb, 10, none⟩ (.slice sa4 H0 sc4)).drew from rfl] at P0 P1 P2 P3 T0 T1 T2 T3 TF HB2
  obtain ⟨W5, hW5⟩ : ∃ W5, (W4.setCell ⟨cb, 10, none⟩ (.slice sa4 H0 sc4)).drew = W5 := ⟨_, rfl⟩
  rw [hW5] at P0 P1 P2 P3 T0 T1 T2 T3 TF HB2 ⊢
  have p0 := P0.out
  have p1 := P1.out
  have p2 := P2.out
  have p3 := P3.out
  have t0 := T0.out
  have t1 := T1.out
  have t2 := T2.out
  have t3 := T3.out
  have tf := TF.out
  clear hW5
  go_wp2_with fail
  refine bodyPost_ret (v := .agg #[.int .i64 op, .string R, .int .i64 (H0 : Int), .bool dd]) (by simp [results, Tryz.results141, go_sem, t0, t1, t2, t3]) rfl ⟨rfl, ?_⟩
  exact HB2.out _ (four_sets _ _ _ _ _ _)
theorem frmAt {w : World} {B cb : Nat} {E : Ce} {x : Cx} {c : Ck} {k : Nat} (h : CkAt w B cb E x c k) {i : Nat} {f : Fr} (hs : c.frames[i]? = some f) : ∃ g cap, x.fv = .slice (some ⟨g, 0, none⟩) c.frames.length cap ∧ w.cell? ⟨g, i * 4, none⟩ = some (.int .i64 f.op) ∧ w.cell? ⟨g, i * 4 + 1, none⟩ = some (.string (strB f.result)) ∧ w.cell? ⟨g, i * 4 + 2, none⟩ = some (.int .i64 (f.height : Int)) ∧ w.cell? ⟨g, i * 4 + 3, none⟩ = some (.bool f.dead) := by
  have hfrm := h.frm
  have hl := (List.getElem?_eq_some_iff.1 hs).1
  obtain ⟨g, cap, hf⟩ := Go.Joins.ownsRow_form hfrm (by omega)
  rw [hf] at hfrm
  have hat : ∀ j, j < 4 → w.cell? ⟨g, i * 4 + j, none⟩ = f.cells[j]? := fun j hj => by
    rw [hfrm.cellAt _ (by omega), frameV_at c.frames i j f hs hj]
  exact ⟨g, cap, hf, hat 0 (by decide), hat 1 (by decide), hat 2 (by decide), hat 3 (by decide)⟩
theorem flabel_any (op : Int) (R : ByteArray) (h : Int) (d : Bool) (w : World) :
    Calls Tryz.prog 175 #[.agg #[.int .i64 op, .string R, .int .i64 h, .bool d]] w fun e w' => e = .returned (.string (if op = 3 then ⟨#[]⟩ else R)) ∧ Below w.heap.size w w' := by
  by_cases h3 : op = 3
  · subst h3
    rw [if_pos rfl]
    go_enter Tryz.func175, Tryz.ntmps175
    go_wp2_with fail
    go_ret
    exact ⟨rfl, (Below.refl _ _).alloc (Nat.le_refl _) _⟩
  · have he : (op == 3) = false := beq_eq_false_iff_ne.2 h3
    rw [if_neg h3]
    go_enter Tryz.func175, Tryz.ntmps175
    go_wp2_with fail
    go_ret
    exact ⟨rfl, (Below.refl _ _).alloc (Nat.le_refl _) _⟩
theorem labelF_str (f : Fr) : (if f.op = 3 then (⟨#[]⟩ : ByteArray) else strB f.result) = strB (labelF f) := by
  unfold labelF
  split <;> rfl
theorem labelC_in {c : Ck} {n : Nat} {f : Fr} (hn : n < c.frames.length) (hf : c.frames[c.frames.length - 1 - n]? = some f) : labelC n c = (c, labelF f) := by
  unfold labelC labelL
  rw [if_pos hn, hf]
  rfl
theorem labelC_out {c : Ck} {n : Nat} (hn : ¬ n < c.frames.length) : labelC n c = (badC c, []) := by
  unfold labelC labelL
  rw [if_neg hn]
  rfl
set_option maxRecDepth 100000 in
set_option maxHeartbeats 1000000 in
theorem label_any (n : Nat) (hn : n < 4294967296) (w : World) (B cb : Nat) (E : Ce) (x : Cx) (c : Ck) (k : Nat) (h : CkAt w B cb E x c k) (hF : c.frames.length < 3000000000000) :
    Calls Tryz.prog 143 #[.pointer (some ⟨cb, 0, none⟩), .int .i64 (n : Int)] w fun e w' => e = .returned (.string (strB (labelC n c).2)) ∧ Upd w B cb E x (labelC n c).1 k w' := by
  have hw1 : IntKind.i64.wrap ((c.frames.length : Int) - 1) = (c.frames.length : Int) - 1 := IntWalk.i64_in _ (by omega)
  have hw2 : IntKind.i64.wrap ((c.frames.length : Int) - 1 - (n : Int)) = (c.frames.length : Int) - 1 - (n : Int) := IntWalk.i64_in _ (by omega)
  by_cases hlt : n < c.frames.length
  · obtain ⟨f, hf⟩ : ∃ f, c.frames[c.frames.length - 1 - n]? = some f := ⟨_, List.getElem?_eq_getElem (by omega)⟩
    rw [labelC_in hlt hf]
    obtain ⟨g, cap, hv, d0, d1, d2, d3⟩ := frmAt h hf
    have H := Lib.hid h
    obtain ⟨sv, fv⟩ := x
    have hv2 : fv = .slice (some ⟨g, 0, none⟩) c.frames.length cap := hv
    subst hv2
    obtain ⟨_, c1, _⟩ := h.cells
    obtain ⟨i, hi⟩ : ∃ i, c.frames.length - 1 - n = i := ⟨_, rfl⟩
    rw [hi] at d0 d1 d2 d3
    have hii : (c.frames.length : Int) - 1 - (n : Int) = (i : Int) := by omega
    rw [hii] at hw2
    have hd : decide ((i : Int) < 0) = false := decide_eq_false (by omega)
    have hi1 : (i : Int) < (c.frames.length : Int) := by omega
    have hi0 : (0 : Int) ≤ (i : Int) := by omega
    have HF := Lib.hid (labelF_str f)
    clear h hv hf hi hlt
    go_enter Tryz.func143, Tryz.ntmps143
    go_wp2_with fail
    refine (flabel_any f.op (strB f.result) (f.height : Int) f.dead _).mono ?_
    rintro e W1 ⟨rfl, b1⟩
    rw [HF.out]
    have B1 := Lib.hid b1
    clear b1
    go_wp2_with fail
    go_ret
    exact ⟨rfl, Upd.below H.out B1.out⟩
  · rw [labelC_out hlt]
    obtain ⟨_, c1, c2⟩ := h.cells
    have fz := h.frozen 12
    have HU := Lib.hid (h.setWrong true)
    obtain ⟨a, cap, hv⟩ := own_slice h.frm
    obtain ⟨sv, fv⟩ := x
    have hv2 : fv = .slice a c.frames.length cap := hv
    subst hv2
    have hd : decide ((c.frames.length : Int) - 1 - (n : Int) < 0) = true := decide_eq_true (by omega)
    clear h hv hlt
    go_enter Tryz.func143, Tryz.ntmps143
    go_wp2_with fail
    go_ret
    exact ⟨rfl, HU.out⟩
theorem localC_in {v : Vn} {c : Ck} {n : Nat} {b : UInt8} (h : v.locals[n]? = some b) : localC v n c = (c, [b]) := by
  unfold localC
  rw [h]
  rfl
theorem localC_out {v : Vn} {c : Ck} {n : Nat} (h : v.locals[n]? = none) : localC v n c = (badC c, []) := by
  unfold localC
  rw [h]
  rfl
theorem extract_one {S : ByteArray} {n : Nat} {b : UInt8} (h : S.data.toList[n]? = some b) : S.extract n (n + 1) = strB [b] := by
  apply ByteArray.ext
  rw [ByteArray.data_extract]
  apply Array.ext'
  rw [Array.toList_extract]
  show _ = [b]
  rw [List.extract_eq_take_drop, show n + 1 - n = 1 by omega]
  obtain ⟨h1, h2⟩ := List.getElem?_eq_some_iff.1 h
  rw [List.drop_eq_getElem_cons h1, h2]
  rfl
set_option maxRecDepth 100000 in
set_option maxHeartbeats 1000000 in
theorem local_any (v : Vn) (n : Nat) (hn : n < 4294967296) (w : World) (B cb : Nat) (E : Ce) (x : Cx) (c : Ck) (k : Nat) (h : CkAt w B cb E x c k) (hv : v.locals = E.locals.data.toList) (hz : E.locals.size < 1000000) :
    Calls Tryz.prog 110 #[.pointer (some ⟨cb, 0, none⟩), .int .i64 (n : Int)] w fun e w' => e = .returned (.string (strB (localC v n c).2)) ∧ Upd w B cb E x (localC v n c).1 k w' := by
  obtain ⟨_, _, _, _, c7, _, _⟩ := h.fixed
  obtain ⟨LS, hLS⟩ : ∃ LS, E.locals = LS := ⟨_, rfl⟩
  rw [hLS] at c7 hz hv
  by_cases hlt : n < LS.size
  · obtain ⟨b, hb⟩ : ∃ b, LS.data.toList[n]? = some b := ⟨_, List.getElem?_eq_getElem (by rw [data_len]; exact hlt)⟩
    rw [localC_in (hv ▸ hb)]
    have hx := extract_one hb
    have H := Lib.hid h
    have hd : decide (((LS.size : Nat) : Int) ≤ (n : Int)) = false := decide_eq_false (by omega)
    have hw1 : IntKind.i64.wrap ((n : Int) + 1) = (n : Int) + 1 := IntWalk.i64_in _ (by omega)
    have hsl : ∀ W : World, (Instr.slice 9 (.string LS) (some (.int .i64 (n : Int))) (some (.int .i64 ((n : Int) + 1))) none).run Tryz.prog W = .ok (.string (strB [b])) W := fun W => by
      rw [← hx]
      exact run_slice_string W 9 LS .i64 .i64 (n : Int) ((n : Int) + 1) Tryz.underlying9 (by omega) (by omega) (by omega)
    clear h hx hb hv
    go_enter Tryz.func110, Tryz.ntmps110
    go_wp2_with fail
    go_ret
    exact ⟨rfl, Upd.same H.out⟩
  · rw [localC_out (by rw [hv]; exact List.getElem?_eq_none (by rw [data_len]; omega))]
    obtain ⟨_, _, c2⟩ := h.cells
    have fz := h.frozen 12
    have HU := Lib.hid (h.setWrong true)
    have hd : decide (((LS.size : Nat) : Int) ≤ (n : Int)) = true := decide_eq_true (by omega)
    clear h hv
    go_enter Tryz.func110, Tryz.ntmps110
    go_wp2_with fail
    go_ret
    exact ⟨rfl, HU.out⟩
end Go.Proofs.YtmbgemcddjailaaGreatDoor.Vld
