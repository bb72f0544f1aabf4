/-
  RunDefs, RunMach, RunA in one.
-/
import Derived.Test.YtmbgemcddjailaaGreatDoorModMem
import Derived.Test.YtmbgemcddjailaaGreatDoorModOwn
import Derived.Deep.QuietTactic
import Derived.BigQuiet
/- RunDefs: How a thread that runs one function lies in memory; what its methods turn. Plain but for the shape of memory. -/
namespace Go.Proofs.YtmbgemcddjailaaGreatDoor.Run
open Go.RowKit Go.Maps Go.Proofs.YtmbgemcddjailaaGreatDoor.Op Go.Proofs.YtmbgemcddjailaaGreatDoor.Mod
set_option linter.unusedVariables false
/-- an open block -/
structure Bk where
  code : Int
  from_ : Int
  end_ : Int
  height : Int
  many : Int
/-- a thread of one frame: what turns -/
structure Th where
  stack : List Nat
  at_ : Nat
  locals : List Nat
  blocks : List Bk
  fuel : Nat
  e : Int
/-- what does not: the machine, the function's number, its code, its height, its results -/
structure Tc where
  mv : Value
  f : Int
  cv : Value
  height : Nat
  many : Nat
  g : Nat
  gc : Nat
  lv : Value
/-- where it lies -/
structure Tx where
  sv : Value
  bv : Value
def natsV (l : List Nat) : List Value := l.map fun (n : Nat) => Value.int .u64 (n : Int)
def Bk.cells (b : Bk) : List Value := [.int .i64 b.code, .int .i64 b.from_, .int .i64 b.end_, .int .i64 b.height, .int .i64 b.many]
def bksV (l : List Bk) : List Value := l.flatMap Bk.cells
def frameC (E : Tc) (x : Tx) (t : Th) : List Value := [.int .i64 E.f, E.cv, .int .i64 (t.at_ : Int), E.lv, .int .i64 (E.height : Int), .int .i64 (E.many : Int), x.bv]
def boxT (E : Tc) (x : Tx) (t : Th) : Array Value := #[E.mv, x.sv, .slice (some ⟨E.g, 0, none⟩) 1 E.gc, .int .i64 (t.fuel : Int), .int .i64 t.e]
def Tx.foot (tb : Nat) (E : Tc) (x : Tx) (k : Nat) : Prop := k = tb ∨ k = E.g ∨ x.sv.ownBlock = some k ∨ E.lv.ownBlock = some k ∨ x.bv.ownBlock = some k
structure TAt (w : World) (B tb : Nat) (E : Tc) (x : Tx) (t : Th) : Prop where
  box : w.heap[tb]? = some (.cells (boxT E x t) 81 (0, 0))
  low : B ≤ tb
  frm : w.ownsRow B 123 7 (.slice (some ⟨E.g, 0, none⟩) 1 E.gc) 1 (frameC E x t)
  stk : w.ownsRow B 22 1 x.sv t.stack.length (natsV t.stack)
  loc : w.ownsRow B 22 1 E.lv t.locals.length (natsV t.locals)
  blk : w.ownsRow B 164 5 x.bv t.blocks.length (bksV t.blocks)
  ne : ∀ j, x.sv.ownBlock = some j → E.lv.ownBlock ≠ some j
section
variable {w w' w1 w2 wA : World} {B tb : Nat} {E : Tc} {x x1 : Tx} {t t' : Th}
theorem TAt.lt (h : TAt w B tb E x t) : tb < w.heap.size := (Array.getElem?_eq_some_iff.1 h.box).1
theorem TAt.gown (h : TAt w B tb E x t) : B ≤ E.g ∧ E.g < w.heap.size := h.frm.lt E.g rfl
theorem TAt.foot_lt (h : TAt w B tb E x t) : ∀ j, x.foot tb E j → B ≤ j ∧ j < w.heap.size := by
  intro j hj
  rcases hj with rfl | rfl | hj | hj | hj
  · exact ⟨h.low, h.lt⟩
  · exact h.gown
  · exact h.stk.lt j hj
  · exact h.loc.lt j hj
  · exact h.blk.lt j hj
theorem TAt.kept (h : TAt w B tb E x t) (he : ∀ j, x.foot tb E j → w'.heap[j]? = w.heap[j]?) : TAt w' B tb E x t :=
  ⟨(he tb (.inl rfl)).trans h.box, h.low, ownsRow_of h.frm (fun j hj => he j (.inr (.inl (by simpa [Value.ownBlock] using hj.symm)))), ownsRow_of h.stk (fun j hj => he j (.inr (.inr (.inl hj)))), ownsRow_of h.loc (fun j hj => he j (.inr (.inr (.inr (.inl hj))))), ownsRow_of h.blk (fun j hj => he j (.inr (.inr (.inr (.inr hj))))), h.ne⟩
theorem TAt.later (h : TAt w B tb E x t) (hb : Below w.heap.size w w') : TAt w' B tb E x t := h.kept fun j hj => hb.block j (h.foot_lt j hj).2
theorem TAt.cells (h : TAt w B tb E x t) : w.cell? ⟨tb, 0, none⟩ = some E.mv ∧ w.cell? ⟨tb, 1, none⟩ = some x.sv ∧ w.cell? ⟨tb, 2, none⟩ = some (.slice (some ⟨E.g, 0, none⟩) 1 E.gc) ∧ w.cell? ⟨tb, 3, none⟩ = some (.int .i64 (t.fuel : Int)) ∧ w.cell? ⟨tb, 4, none⟩ = some (.int .i64 t.e) := by
  have hb := h.box
  refine ⟨?_, ?_, ?_, ?_, ?_⟩ <;> (rw [cell_of_row w tb _ _ _ _ hb]; rfl)
theorem TAt.frozen (h : TAt w B tb E x t) (j : Nat) : w.frozen? ⟨tb, j, none⟩ = false := frozen_of_row w tb j _ _ h.box
/-- the frame's cells -/
theorem TAt.frame (h : TAt w B tb E x t) : w.cell? ⟨E.g, 0, none⟩ = some (.int .i64 E.f) ∧ w.cell? ⟨E.g, 1, none⟩ = some E.cv ∧ w.cell? ⟨E.g, 2, none⟩ = some (.int .i64 (t.at_ : Int)) ∧ w.cell? ⟨E.g, 3, none⟩ = some E.lv ∧ w.cell? ⟨E.g, 4, none⟩ = some (.int .i64 (E.height : Int)) ∧ w.cell? ⟨E.g, 5, none⟩ = some (.int .i64 (E.many : Int)) ∧ w.cell? ⟨E.g, 6, none⟩ = some x.bv ∧ ∀ j, w.frozen? ⟨E.g, j, none⟩ = false := by
  have hf := h.frm
  have hat : ∀ j, j < 7 → w.cell? ⟨E.g, j, none⟩ = (frameC E x t)[j]? := fun j hj => hf.cellAt j (by omega)
  exact ⟨hat 0 (by decide), hat 1 (by decide), hat 2 (by decide), hat 3 (by decide), hat 4 (by decide), hat 5 (by decide), hat 6 (by decide), hf.frozenAt⟩
/-- of a row of numbers: its form, its cells -/
theorem nats_form {w : World} {B : Nat} {v : Value} {l : List Nat} (hs : w.ownsRow B 22 1 v l.length (natsV l)) : ∃ a cap, v = .slice a l.length cap ∧ l.length ≤ cap ∧ (0 < l.length → ∃ g, a = some ⟨g, 0, none⟩ ∧ v.ownBlock = some g ∧ g < w.heap.size ∧ (∀ (j : Nat) (n : Nat), l[j]? = some n → w.cell? ⟨g, j, none⟩ = some (.int .u64 (n : Int))) ∧ ∀ j, w.frozen? ⟨g, j, none⟩ = false) := by
  rcases hs.2 with ⟨h1, h2⟩ | ⟨g, cap, cur, h1, _, _, hc, _⟩
  · exact ⟨none, 0, by rw [h1, h2], by omega, fun h => by omega⟩
  · rw [h1] at hs
    refine ⟨some ⟨g, 0, none⟩, cap, h1, hc, fun h0 => ⟨g, rfl, by rw [h1]; rfl, (hs.lt g rfl).2, fun j n hn => ?_, hs.frozenAt⟩⟩
    have hj := (List.getElem?_eq_some_iff.1 hn).1
    rw [hs.cellAt j (by omega)]
    simp [natsV, hn]
theorem TAt.rest (h : TAt w B tb E x t) : E.g ≠ tb ∧ (∀ j, x.sv.ownBlock = some j → j ≠ tb ∧ j ≠ E.g ∧ E.lv.ownBlock ≠ some j ∧ x.bv.ownBlock ≠ some j) ∧ (∀ j, E.lv.ownBlock = some j → j ≠ tb ∧ j ≠ E.g ∧ x.sv.ownBlock ≠ some j ∧ x.bv.ownBlock ≠ some j) ∧ (∀ j, x.bv.ownBlock = some j → j ≠ tb ∧ j ≠ E.g ∧ x.sv.ownBlock ≠ some j ∧ E.lv.ownBlock ≠ some j) := by
  have hg : ∀ {v : Value} {n e size : Nat} {xs : List Value} (hv : w.ownsRow B e size v n xs), e ≠ 123 → ∀ j, v.ownBlock = some j → j ≠ E.g := fun hv hne j hj e => kinds_ne hv h.frm hne j hj (by rw [e]; rfl)
  refine ⟨fun e => kind_ne h.frm h.box (by decide) (by rw [← e]; rfl), fun j hj => ⟨?_, hg h.stk (by decide) j hj, h.ne j hj, kinds_ne h.stk h.blk (by decide) j hj⟩, fun j hj => ⟨?_, hg h.loc (by decide) j hj, fun e => h.ne j e hj, kinds_ne h.loc h.blk (by decide) j hj⟩, fun j hj => ⟨?_, hg h.blk (by decide) j hj, kinds_ne h.blk h.stk (by decide) j hj, kinds_ne h.blk h.loc (by decide) j hj⟩⟩
  · rintro rfl; exact kind_ne h.stk h.box (by decide) hj
  · rintro rfl; exact kind_ne h.loc h.box (by decide) hj
  · rintro rfl; exact kind_ne h.blk h.box (by decide) hj
/-- what a method leaves -/
def Upd (w : World) (B tb : Nat) (E : Tc) (x : Tx) (t : Th) (w' : World) : Prop := ∃ x' : Tx, TAt w' B tb E x' t ∧ (∀ j, x'.foot tb E j → x.foot tb E j ∨ w.heap.size ≤ j) ∧ Keeps (x.foot tb E) w w'
theorem Upd.same (h : TAt w B tb E x t) : Upd w B tb E x t w := ⟨x, h, fun j hj => .inl hj, .refl _ _⟩
theorem Upd.below (h : TAt w B tb E x t) (hb : Below w.heap.size w w') : Upd w B tb E x t w' := ⟨x, h.later hb, fun j hj => .inl hj, .of_below hb⟩
theorem Upd.trans (hf : ∀ j, x1.foot tb E j → x.foot tb E j ∨ w.heap.size ≤ j) (hk : Keeps (x.foot tb E) w w1) (h : Upd w1 B tb E x1 t w2) : Upd w B tb E x t w2 := by
  obtain ⟨x2, h1, h2, h3⟩ := h
  refine ⟨x2, h1, fun j hj => ?_, hk.trans h3 hf⟩
  rcases h2 j hj with h4 | h4
  · exact hf j h4
  · exact .inr (Nat.le_trans hk.size h4)
theorem Upd.then_ (u : Upd w B tb E x t w1) (hb : Below w1.heap.size w1 w2) : Upd w B tb E x t w2 := by
  obtain ⟨x1, h1, h2, h3⟩ := u
  exact ⟨x1, h1.later hb, h2, h3.trans (Keeps.of_below hb) (fun j hj => .inl hj)⟩
theorem Upd.after (hb : Below w.heap.size w wA) (u : Upd wA B tb E x t w') : Upd w B tb E x t w' := Upd.trans (fun j hj => .inl hj) (.of_below hb) u
theorem Upd.go (u : Upd w B tb E x t w1) (k : ∀ x1, TAt w1 B tb E x1 t → Upd w1 B tb E x1 t' w2) : Upd w B tb E x t' w2 := by
  obtain ⟨x1, h1, h2, h3⟩ := u
  exact Upd.trans h2 h3 (k x1 h1)
theorem Upd.below_base (h0 : TAt w B tb E x t) (hB : B ≤ w.heap.size) (h : Upd w B tb E x t' w') : Below B w w' := by
  obtain ⟨x', _, _, h3⟩ := h
  exact h3.below (fun j hj => (h0.foot_lt j hj).1) hB
theorem Upd.size (u : Upd w B tb E x t w1) : w.heap.size ≤ w1.heap.size := by
  obtain ⟨_, _, _, h3⟩ := u
  exact h3.size
/-- a cell of the thread's own -/
theorem TAt.inBox (h : TAt w B tb E x t) (j : Nat) (u : Value) (hx : (boxT E x t).setIfInBounds j u = boxT E x t') (h1 : t'.stack = t.stack) (h2 : t'.at_ = t.at_) (h3 : t'.locals = t.locals) (h4 : t'.blocks = t.blocks) : Upd w B tb E x t' (w.setCell ⟨tb, j, none⟩ u) := by
  obtain ⟨r0, r1, r2, r3⟩ := h.rest
  have hold : ∀ q, q ≠ tb → (w.setCell ⟨tb, j, none⟩ u).heap[q]? = w.heap[q]? := fun q hq => Below.heap_setCell _ _ _ _ hq
  refine ⟨x, ⟨?_, h.low, ?_, ?_, ?_, ?_, h.ne⟩, fun j hj => .inl hj, Keeps.setCell (F := x.foot tb E) _ _ _ (.inl rfl)⟩
  · rw [box_set h.box, hx]
  · have hf : frameC E x t' = frameC E x t := by unfold frameC; rw [h2]
    rw [hf]
    exact ownsRow_of h.frm (fun q hq => hold q (by have e : E.g = q := by simpa [Value.ownBlock] using hq
                                                   rw [← e]; exact r0))
  · rw [h1]; exact ownsRow_of h.stk (fun q hq => hold q (r1 q hq).1)
  · rw [h3]; exact ownsRow_of h.loc (fun q hq => hold q (r2 q hq).1)
  · rw [h4]; exact ownsRow_of h.blk (fun q hq => hold q (r3 q hq).1)
theorem TAt.setFuel (h : TAt w B tb E x t) (n : Nat) : Upd w B tb E x { t with fuel := n } (w.setCell ⟨tb, 3, none⟩ (.int .i64 (n : Int))) := h.inBox 3 _ rfl rfl rfl rfl rfl
theorem TAt.setE (h : TAt w B tb E x t) (e : Int) : Upd w B tb E x { t with e := e } (w.setCell ⟨tb, 4, none⟩ (.int .i64 e)) := h.inBox 4 _ rfl rfl rfl rfl rfl
/-- a cell of its frame -/
theorem TAt.inFrame (h : TAt w B tb E x t) (j : Nat) (u : Value) (hx : (frameC E x t).set j u = frameC E x t') (h0 : boxT E x t' = boxT E x t) (h1 : t'.stack = t.stack) (h3 : t'.locals = t.locals) (h4 : t'.blocks = t.blocks) : Upd w B tb E x t' (w.setCell ⟨E.g, j, none⟩ u) := by
  obtain ⟨r0, r1, r2, r3⟩ := h.rest
  have hold : ∀ q, q ≠ E.g → (w.setCell ⟨E.g, j, none⟩ u).heap[q]? = w.heap[q]? := fun q hq => Below.heap_setCell _ _ _ _ hq
  refine ⟨x, ⟨?_, h.low, ?_, ?_, ?_, ?_, h.ne⟩, fun j hj => .inl hj, Keeps.setCell (F := x.foot tb E) _ _ _ (.inr (.inl rfl))⟩
  · rw [hold tb r0.symm, h.box, h0]
  · rw [← hx]; exact (h.frm.stored j u).1
  · rw [h1]; exact ownsRow_of h.stk (fun q hq => hold q (r1 q hq).2.1)
  · rw [h3]; exact ownsRow_of h.loc (fun q hq => hold q (r2 q hq).2.1)
  · rw [h4]; exact ownsRow_of h.blk (fun q hq => hold q (r3 q hq).2.1)
theorem TAt.setAt (h : TAt w B tb E x t) (n : Nat) : Upd w B tb E x { t with at_ := n } (w.setCell ⟨E.g, 2, none⟩ (.int .i64 (n : Int))) := h.inFrame 2 _ rfl rfl rfl rfl rfl
/-- a new stack -/
theorem TAt.setStk (h : TAt w B tb E x t) {v' : Value} {l : List Nat} (g : w.grownBy w1 x.sv.ownBlock) (o : w1.ownsRow B 22 1 v' l.length (natsV l)) (hv : newBlock x.sv v' w) : Upd w B tb E x { t with stack := l } (w1.setCell ⟨tb, 1, none⟩ v') := by
  obtain ⟨r0, r1, r2, r3⟩ := h.rest
  have hold : ∀ j, j < w.heap.size → some j ≠ x.sv.ownBlock → j ≠ tb → (w1.setCell ⟨tb, 1, none⟩ v').heap[j]? = w.heap[j]? := fun j hj h1 h2 => (Below.heap_setCell _ _ _ _ h2).trans (g.block j hj h1)
  have hbx : w1.heap[tb]? = w.heap[tb]? := g.block tb h.lt (fun e => (r1 tb e.symm).1 rfl)
  have hvb : ∀ j, v'.ownBlock = some j → j ≠ tb := fun j hj => by
    rcases hv j hj with h1 | h1
    · exact (r1 j h1).1
    · have := h.lt; omega
  refine ⟨{ x with sv := v' }, ⟨?_, h.low, ?_, ownsRow_of o (fun j hj => Below.heap_setCell _ _ _ _ (hvb j hj)), ownsRow_of h.loc (fun j hj => hold j (h.loc.lt j hj).2 (fun e => (r2 j hj).2.2.1 e.symm) (r2 j hj).1), ownsRow_of h.blk (fun j hj => hold j (h.blk.lt j hj).2 (fun e => (r3 j hj).2.2.1 e.symm) (r3 j hj).1), ?_⟩, ?_, ?_⟩
  · rw [box_set (hbx.trans h.box)]
    rfl
  · exact ownsRow_of (v := .slice (some ⟨E.g, 0, none⟩) 1 E.gc) h.frm (fun j hj => by
      have e : E.g = j := by simpa [Value.ownBlock] using hj
      rw [← e]
      exact hold _ h.gown.2 (fun e => (r1 _ e.symm).2.1 rfl) r0)
  · intro j hj hl
    rcases hv j hj with h1 | h1
    · exact h.ne j h1 hl
    · have := (h.loc.lt j hl).2; omega
  · rintro j (rfl | rfl | hj | hj | hj)
    · exact .inl (.inl rfl)
    · exact .inl (.inr (.inl rfl))
    · rcases hv j hj with h1 | h1
      · exact .inl (.inr (.inr (.inl h1)))
      · exact .inr h1
    · exact .inl (.inr (.inr (.inr (.inl hj))))
    · exact .inl (.inr (.inr (.inr (.inr hj))))
  · exact (Keeps.grown g (fun j hj => .inr (.inr (.inl hj)))).trans (Keeps.setCell (F := x.foot tb E) _ _ _ (.inl rfl)) (fun j hj => .inl hj)
theorem natsV_take (l : List Nat) (m : Nat) : natsV (l.take m) = (natsV l).take (m * 1) := by simp [natsV, List.map_take]
theorem natsV_snoc (l : List Nat) (n : Nat) : natsV (l ++ [n]) = natsV l ++ [.int .u64 (n : Int)] := by simp [natsV]
theorem natsV_set (l : List Nat) (j n : Nat) : natsV (l.set j n) = (natsV l).set j (.int .u64 (n : Int)) := by simp [natsV, List.map_set]
/-- a row of numbers, cut -/
theorem nats_cut {w : World} {B : Nat} {a : Option Addr} {l : List Nat} {cap m : Nat} (hs : w.ownsRow B 22 1 (.slice a l.length cap) l.length (natsV l)) (hm : m ≤ l.length) : w.ownsRow B 22 1 (.slice a m cap) (l.take m).length (natsV (l.take m)) := by
  have hl : (l.take m).length = m := by rw [List.length_take]; omega
  rcases hs.2 with ⟨h1, h2⟩ | ⟨g, cap', cur, h1, _⟩
  · simp only [Value.slice.injEq] at h1
    obtain ⟨rfl, hl2, rfl⟩ := h1
    have hm0 : m = 0 := by omega
    subst hm0
    exact World.ownsRow_nil _ _ _ _
  · simp only [Value.slice.injEq] at h1
    obtain ⟨rfl, _, rfl⟩ := h1
    rw [hl, natsV_take]
    exact ownsRow_take hs hm
theorem TAt.cut (h : TAt w B tb E x t) {a : Option Addr} {cap m : Nat} (hx : x.sv = .slice a t.stack.length cap) (hm : m ≤ t.stack.length) : Upd w B tb E x { t with stack := t.stack.take m } (w.setCell ⟨tb, 1, none⟩ (.slice a m cap)) := by
  have hs := h.stk
  rw [hx] at hs
  exact h.setStk (World.grownBy.refl w _) (nats_cut hs hm) (fun k hk => .inl (by rw [hx]; cases a with | none => exact hk | some a => exact hk))
/-- a local, set -/
theorem TAt.inLoc (h : TAt w B tb E x t) {lb cap : Nat} (hx : E.lv = .slice (some ⟨lb, 0, none⟩) t.locals.length cap) (j n : Nat) : Upd w B tb E x { t with locals := t.locals.set j n } (w.setCell ⟨lb, j, none⟩ (.int .u64 (n : Int))) := by
  obtain ⟨r0, r1, r2, r3⟩ := h.rest
  have hlb : E.lv.ownBlock = some lb := by rw [hx]; rfl
  have hold : ∀ q, q ≠ lb → (w.setCell ⟨lb, j, none⟩ (.int .u64 (n : Int))).heap[q]? = w.heap[q]? := fun q hq => Below.heap_setCell _ _ _ _ hq
  have hl := h.loc
  rw [hx] at hl
  refine ⟨x, ⟨(hold tb (r2 lb hlb).1.symm).trans h.box, h.low, ?_, ownsRow_of h.stk (fun q hq => hold q (fun e => (r1 q hq).2.2.1 (e ▸ hlb))), ?_, ownsRow_of h.blk (fun q hq => hold q (fun e => (r3 q hq).2.2.2 (e ▸ hlb))), h.ne⟩, fun j hj => .inl hj, Keeps.setCell (F := x.foot tb E) _ _ _ (.inr (.inr (.inr (.inl hlb))))⟩
  · exact ownsRow_of (v := .slice (some ⟨E.g, 0, none⟩) 1 E.gc) h.frm (fun q hq => hold q (by
      have e : E.g = q := by simpa [Value.ownBlock] using hq
      rw [← e]
      exact (r2 lb hlb).2.1.symm))
  · show World.ownsRow _ _ _ _ _ (t.locals.set j n).length (natsV (t.locals.set j n))
    rw [hx, List.length_set, natsV_set]
    exact (hl.stored j _).1
/-- other open blocks -/
theorem TAt.setBlk (h : TAt w B tb E x t) {v' : Value} {l : List Bk} (g : w.grownBy w1 x.bv.ownBlock) (o : w1.ownsRow B 164 5 v' l.length (bksV l)) (hv : newBlock x.bv v' w) : Upd w B tb E x { t with blocks := l } (w1.setCell ⟨E.g, 6, none⟩ v') := by
  obtain ⟨r0, r1, r2, r3⟩ := h.rest
  have hold : ∀ j, j < w.heap.size → some j ≠ x.bv.ownBlock → j ≠ E.g → (w1.setCell ⟨E.g, 6, none⟩ v').heap[j]? = w.heap[j]? := fun j hj h1 h2 => (Below.heap_setCell _ _ _ _ h2).trans (g.block j hj h1)
  have hgx : ∀ j, v'.ownBlock = some j → j ≠ E.g := fun j hj => by
    rcases hv j hj with h1 | h1
    · exact (r3 j h1).2.1
    · have := h.gown.2; omega
  have hf1 : w1.ownsRow B 123 7 (.slice (some ⟨E.g, 0, none⟩) 1 E.gc) 1 (frameC E x t) := ownsRow_of h.frm (fun j hj => by
    have e : E.g = j := by simpa [Value.ownBlock] using hj
    rw [← e]
    exact g.block _ h.gown.2 (fun e => (r3 _ e.symm).2.1 rfl))
  refine ⟨{ x with bv := v' }, ⟨?_, h.low, (hf1.stored 6 v').1, ownsRow_of h.stk (fun j hj => hold j (h.stk.lt j hj).2 (fun e => (r1 j hj).2.2.2 e.symm) (r1 j hj).2.1), ownsRow_of h.loc (fun j hj => hold j (h.loc.lt j hj).2 (fun e => (r2 j hj).2.2.2 e.symm) (r2 j hj).2.1), ownsRow_of o (fun j hj => Below.heap_setCell _ _ _ _ (hgx j hj)), h.ne⟩, ?_, ?_⟩
  · exact (hold tb h.lt (fun e => (r3 _ e.symm).1 rfl) r0.symm).trans h.box
  · rintro j (rfl | rfl | hj | hj | hj)
    · exact .inl (.inl rfl)
    · exact .inl (.inr (.inl rfl))
    · exact .inl (.inr (.inr (.inl hj)))
    · exact .inl (.inr (.inr (.inr (.inl hj))))
    · rcases hv j hj with h1 | h1
      · exact .inl (.inr (.inr (.inr (.inr h1))))
      · exact .inr h1
  · exact (Keeps.grown g (fun j hj => .inr (.inr (.inr (.inr hj))))).trans (Keeps.setCell (F := x.foot tb E) _ _ _ (.inr (.inl rfl))) (fun j hj => .inl hj)
end
end Go.Proofs.YtmbgemcddjailaaGreatDoor.Run

/- RunMach: How a machine lies in memory: its module's copy, its globals; what a thread of it leaves. Plain but for the shape of memory. -/
namespace Go.Proofs.YtmbgemcddjailaaGreatDoor.Run
open Go.RowKit Go.Maps Go.Proofs.YtmbgemcddjailaaGreatDoor.Op Go.Proofs.YtmbgemcddjailaaGreatDoor.Mod
set_option linter.unusedVariables false
/-- a machine: its block, its module as it lies in a world behind which nothing of it turned, its maps -/
structure Mk where
  R : Nat
  w0 : World
  t : Value
  f : Value
  me : Value
  g : Value
  e : Value
  st : Int
  d : Value
  m : ModP
  mp : Value
  gv : Value
  rb : Nat
  ab : Nat
def boxM (K : Mk) : Array Value := #[K.t, K.f, K.me, K.g, K.e, .int .i64 K.st, K.d, K.mp, K.gv, .map (some K.rb), .map (some K.ab)]
structure MAt (w : World) (B : Nat) (K : Mk) (gs : List Nat) : Prop where
  box : w.heap[K.R]? = some (.cells (boxM K) 72 (0, 0))
  lt : K.w0.heap.size ≤ K.R ∧ K.R < B
  mod : ModAt K.w0 K.t K.f K.me K.g K.e K.st K.d K.m
  old : Below K.w0.heap.size K.w0 w
  glob : w.ownsRow K.w0.heap.size 22 1 K.gv gs.length (natsV gs)
  glt : ∀ j, K.gv.ownBlock = some j → j < B
  wB : B ≤ w.heap.size
section
variable {w w' w1 w2 : World} {B tb : Nat} {K : Mk} {gs gs' : List Nat} {E : Tc} {x x1 : Tx} {t t' : Th}
theorem MAt.under (h : MAt w B K gs) (hb : Below B w w') : MAt w' B K gs :=
  ⟨(hb.block _ h.lt.2).trans h.box, h.lt, h.mod, h.old.trans (hb.mono (by have := h.lt; omega)), ownsRow_of h.glob (fun j hj => hb.block j (h.glt j hj)), h.glt, Nat.le_trans h.wB hb.size⟩
theorem MAt.later (h : MAt w B K gs) (hb : Below w.heap.size w w') : MAt w' B K gs := h.under (hb.mono h.wB)
theorem MAt.rise (h : MAt w B K gs) {B' : Nat} (hB : B ≤ B') (hw : B' ≤ w.heap.size) : MAt w B' K gs := ⟨h.box, ⟨h.lt.1, Nat.lt_of_lt_of_le h.lt.2 hB⟩, h.mod, h.old, h.glob, fun j hj => Nat.lt_of_lt_of_le (h.glt j hj) hB, hw⟩
theorem MAt.cells (h : MAt w B K gs) : w.cell? ⟨K.R, 0, none⟩ = some K.t ∧ w.cell? ⟨K.R, 1, none⟩ = some K.f ∧ w.cell? ⟨K.R, 2, none⟩ = some K.me ∧ w.cell? ⟨K.R, 3, none⟩ = some K.g ∧ w.cell? ⟨K.R, 4, none⟩ = some K.e ∧ w.cell? ⟨K.R, 5, none⟩ = some (.int .i64 K.st) ∧ w.cell? ⟨K.R, 6, none⟩ = some K.d ∧ w.cell? ⟨K.R, 7, none⟩ = some K.mp ∧ w.cell? ⟨K.R, 8, none⟩ = some K.gv ∧ w.cell? ⟨K.R, 9, none⟩ = some (.map (some K.rb)) ∧ w.cell? ⟨K.R, 10, none⟩ = some (.map (some K.ab)) := by
  have hb := h.box
  refine ⟨?_, ?_, ?_, ?_, ?_, ?_, ?_, ?_, ?_, ?_, ?_⟩ <;> (rw [cell_of_row w K.R _ _ _ _ hb]; rfl)
/-- the globals' block is the machine's own, below the thread's -/
theorem MAt.setGlob (h : MAt w B K gs) {gb cap : Nat} (hx : K.gv = .slice (some ⟨gb, 0, none⟩) gs.length cap) (j n : Nat) : MAt (w.setCell ⟨gb, j, none⟩ (.int .u64 (n : Int))) B K (gs.set j n) := by
  have hgb : K.gv.ownBlock = some gb := by rw [hx]; rfl
  have hg := h.glob
  rw [hx] at hg
  have hne : gb ≠ K.R := fun e => kind_ne h.glob h.box (by decide) (by rw [hgb, e])
  refine ⟨(Below.heap_setCell _ _ _ _ hne.symm).trans h.box, h.lt, h.mod, ?_, ?_, h.glt, by rw [show (w.setCell ⟨gb, j, none⟩ (.int .u64 (n : Int))).heap.size = w.heap.size by simp [World.setCell]]; exact h.wB⟩
  · exact h.old.setCell (p := ⟨gb, j, none⟩) (h.glob.lt gb hgb).1 _
  · rw [hx, List.length_set, natsV_set]
    exact (hg.stored j _).1
theorem TAt.apart (h : TAt w B tb E x t) {b : Nat} (hb : b < B) (j : Nat) (u : Value) : TAt (w.setCell ⟨b, j, none⟩ u) B tb E x t := h.kept fun q hq => Below.heap_setCell _ _ _ _ (fun e => by have h1 := (h.foot_lt q hq).1; have h2 : q = b := e; omega)
/-- thread and machine -/
structure SAt (w : World) (B tb : Nat) (K : Mk) (gs : List Nat) (E : Tc) (x : Tx) (t : Th) : Prop where
  th : TAt w B tb E x t
  ma : MAt w B K gs
  mv : E.mv = .pointer (some ⟨K.R, 0, none⟩)
/-- what may turn -/
def Mk.foot (K : Mk) (k : Nat) : Prop := K.gv.ownBlock = some k
def SUpd (w : World) (B tb : Nat) (K : Mk) (gs : List Nat) (E : Tc) (x : Tx) (t : Th) (w' : World) : Prop := ∃ x' : Tx, SAt w' B tb K gs E x' t ∧ (∀ j, x'.foot tb E j → x.foot tb E j ∨ w.heap.size ≤ j) ∧ Keeps (fun j => x.foot tb E j ∨ K.foot j) w w'
theorem SUpd.of (h : SAt w B tb K gs E x t) (u : Upd w B tb E x t' w') : SUpd w B tb K gs E x t' w' := by
  have hb := Upd.below_base h.th h.ma.wB u
  obtain ⟨x', h1, h2, h3⟩ := u
  exact ⟨x', ⟨h1, h.ma.under hb, h.mv⟩, h2, ⟨h3.os, h3.tape, h3.output, h3.size, fun k hk hf => h3.block k hk (fun hq => hf (.inl hq))⟩⟩
theorem SUpd.trans (u : SUpd w B tb K gs E x t w1) (k : ∀ x1, SAt w1 B tb K gs E x1 t → SUpd w1 B tb K gs' E x1 t' w2) : SUpd w B tb K gs' E x t' w2 := by
  obtain ⟨x1, h1, h2, h3⟩ := u
  obtain ⟨x2, k1, k2, k3⟩ := k x1 h1
  refine ⟨x2, k1, fun j hj => ?_, h3.trans k3 (fun j hj => ?_)⟩
  · rcases k2 j hj with h4 | h4
    · exact h2 j h4
    · exact .inr (Nat.le_trans h3.size h4)
  · rcases hj with hj | hj
    · exact (h2 j hj).imp .inl id
    · exact .inl (.inr hj)
theorem SUpd.then_ (u : SUpd w B tb K gs E x t w1) (hb : Below w1.heap.size w1 w2) : SUpd w B tb K gs E x t w2 := u.trans fun x1 h1 => .of h1 (.below h1.th hb)
theorem SUpd.same (h : SAt w B tb K gs E x t) : SUpd w B tb K gs E x t w := .of h (.same h.th)
theorem SUpd.glob (h : SAt w B tb K gs E x t) {gb cap : Nat} (hx : K.gv = .slice (some ⟨gb, 0, none⟩) gs.length cap) (j n : Nat) : SUpd w B tb K (gs.set j n) E x t (w.setCell ⟨gb, j, none⟩ (.int .u64 (n : Int))) := by
  have hgb : K.gv.ownBlock = some gb := by rw [hx]; rfl
  exact ⟨x, ⟨h.th.apart (h.ma.glt gb hgb) _ _, h.ma.setGlob hx j n, h.mv⟩, fun j hj => .inl hj, Keeps.setCell (F := fun j => x.foot tb E j ∨ K.foot j) _ _ _ (.inr hgb)⟩
end
end Go.Proofs.YtmbgemcddjailaaGreatDoor.Run

/- RunA: What a thread's small methods do: pop, push. No condition beyond what each theorem names. -/
namespace Go.Proofs.YtmbgemcddjailaaGreatDoor.Run
open Go.RowKit Go.Maps Go.Proofs.YtmbgemcddjailaaGreatDoor.Op Go.Proofs.YtmbgemcddjailaaGreatDoor.Mod
set_option linter.unusedVariables false
theorem info_u64 : (Tryz.prog.info? 22).map (fun i => (i.zero, i.size, i.bytes)) = some (some (.int .u64 0), 1, 8) := by kernel_rfl
set_option maxRecDepth 100000 in
theorem cut_nats (a : Option Addr) (n cap m : Nat) (h : m ≤ cap) (w : World) : (Instr.slice 46 (.slice a n cap) none (some (.int .i64 m)) none).run Tryz.prog w = .ok (.slice a m cap) w := by
  rw [run_slice_h w 46 a n cap Tryz.underlying46 .i64 (m : Int) (by omega) (by omega)]
  have hs : (sizeOf (Tryz.prog.elem 46)).run Tryz.prog w = .ok 1 w := by kernel_rfl
  rw [hs]
  cases a <;> simp [Result.andThen, sliced, Addr.add]
theorem one_nat (n : Nat) : ∀ u ∈ [(Value.int .u64 (n : Int))], u.oneCell' = true := by
  intro u hu
  rw [List.mem_singleton.1 hu]
  rfl
set_option maxRecDepth 100000 in
set_option maxHeartbeats 1000000 in
theorem pop_any (w : World) (B tb : Nat) (E : Tc) (x : Tx) (t : Th) (h : TAt w B tb E x t) (l0 : List Nat) (n : Nat) (hs : t.stack = l0 ++ [n]) (hS : l0.length < 3000000000000) :
    Calls Tryz.prog 76 #[.pointer (some ⟨tb, 0, none⟩)] w fun e w' => e = .returned (.int .u64 (n : Int)) ∧ Upd w B tb E x { t with stack := l0 } w' := by
  obtain ⟨a, cap, hx, hcap, hform⟩ := nats_form h.stk
  have hlen : t.stack.length = l0.length + 1 := by rw [hs]; simp
  obtain ⟨g2, rfl, hown, hgl2, hat, hfz⟩ := hform (by omega)
  have ct := hat l0.length n (by rw [hs]; simp)
  have htk : t.stack.take l0.length = l0 := by rw [hs]; simp
  have HU := h.cut hx (m := l0.length) (by omega)
  rw [htk] at HU
  have HU := Lib.hid HU
  have c1 := h.cells.2.1
  rw [hx, hlen] at c1
  have fz := h.frozen 1
  have hsl := cut_nats (some ⟨g2, 0, none⟩) (l0.length + 1) cap l0.length (by omega)
  have hwl : IntKind.i64.wrap (l0.length : Int) = (l0.length : Int) := IntWalk.i64_in _ (by omega)
  have hi0 : (0 : Int) ≤ (l0.length : Int) := by omega
  have hi1 : (l0.length : Int) < (l0.length : Int) + 1 := by omega
  have hcb := h.lt
  clear h hx hform hown hat hfz hs htk hlen
  go_enter Tryz.func76, Tryz.ntmps76
  go_wp2_with fail
  go_ret
  exact ⟨rfl, HU.out⟩
set_option maxRecDepth 100000 in
set_option maxHeartbeats 1000000 in
theorem push_any (n : Nat) (w : World) (B tb : Nat) (E : Tc) (x : Tx) (t : Th) (h : TAt w B tb E x t) (hB : B ≤ w.heap.size) (hS : t.stack.length < 4096) :
    Calls Tryz.prog 79 #[.pointer (some ⟨tb, 0, none⟩), .int .u64 (n : Int)] w fun e w' => e = .returned (.tuple #[]) ∧ Upd w B tb E x { t with stack := t.stack ++ [n] } w' := by
  obtain ⟨i0, hi, hz0, hz1, hz2⟩ := info_of info_u64
  obtain ⟨a, cap, hx, hcap, _⟩ := nats_form h.stk
  obtain ⟨sv, bv⟩ := x
  have hx2 : sv = .slice a t.stack.length cap := hx
  subst hx2
  have c1 := h.cells.2.1
  have hbl := h.lt
  have H := Lib.hid h
  have HC4 := Lib.hid (show t.stack.length + 1 ≤ maxLen by unfold maxLen; omega)
  have HC5 := Lib.hid (show (t.stack.length + 1) * 8 ≤ 140737488355328 by omega)
  have HC6 := Lib.hid (show B ≤ (w.alloc (.cells #[.int .u64 (n : Int)] 22)).heap.size by simp; omega)
  have HN := Lib.hid (news_at w #[.int .u64 (n : Int)] 22 [.int .u64 (n : Int)] rfl)
  have C1 := Lib.hid c1
  have hne4 : ((t.stack.length : Int) == 4096) = false := beq_eq_false_iff_ne.2 (by omega)
  clear h hx
  go_enter Tryz.func79, Tryz.ntmps79
  go_wp2_with (at_builtin; refine wpList_append_own2 _ rfl _ _ 46 rfl B 22 i0 (.int .u64 0) 1 8 Tryz.underlying46 hi hz0 hz1 hz2 rfl (by decide) _ _ _ rfl (H.out.stk.alloc _) ⟨w.heap.size, 0, none⟩ 1 1 [.int .u64 (n : Int)] rfl rfl HN.out (one_nat n) (by decide) HC4.out HC5.out HC6.out ?_)
  intro v' w1 hown hgrow hnb
  obtain ⟨g', cap', rfl⟩ := Go.Joins.ownsRow_form hown (by omega)
  have hne : (Value.slice a t.stack.length cap).ownBlock ≠ some tb := fun e => (H.out.rest.2.1 tb e).1 rfl
  have hbx : w1.heap[tb]? = w.heap[tb]? := (grown_alloc hgrow).block tb H.out.lt (Ne.symm hne)
  have fz1 : w1.frozen? ⟨tb, 1, none⟩ = false := (World.frozen?_of_block (a := ⟨tb, 1, none⟩) hbx).trans (H.out.frozen 1)
  have cz : w1.cell? ⟨tb, 1, none⟩ = some (.slice a t.stack.length cap) := (World.cell?_of_block (a := ⟨tb, 1, none⟩) hbx).trans C1.out
  have HU := Lib.hid (H.out.setStk (l := t.stack ++ [n]) (grown_alloc hgrow) (by rw [natsV_snoc, List.length_append]; exact hown) (newBlock_mono hnb (by simp)))
  clear hown hgrow hnb hne hbx c1
  go_wp2_with fail
  go_end0
  exact ⟨rfl, HU.out⟩
end Go.Proofs.YtmbgemcddjailaaGreatDoor.Run
