/-
  How the reference's Builder of chapter 17 lies in memory; what a method of it leaves as it was. Plain but for the shape of memory.
-/
import Derived.Test.YtlbgbpgjccbbjaaDoorAsmK
namespace Go.Proofs.YtlbgbpgjccbbjaaDoor.Asm
open Go.RowKit Go.Maps Go.Proofs.YtlbgbpgjccbbjaaDoor.Op
set_option linter.unusedVariables false
structure Rx where
  cv : Value
  ov : Value
def Rx.foot (bb : Nat) (x : Rx) (k : Nat) : Prop := k = bb ∨ x.cv.ownBlock = some k ∨ x.ov.ownBlock = some k
def rboxV (P : ByteArray) (x : Rx) (s : St) : Array Value := #[.string P, .string ⟨s.locals.toArray⟩, x.cv, x.ov]
structure RAt (w : World) (B bb : Nat) (P : ByteArray) (x : Rx) (s : St) : Prop where
  box : w.heap[bb]? = some (.cells (rboxV P x s) 67 (0, 0))
  low : B ≤ bb
  par : P.size = s.params
  cod : w.ownsRow B 36 4 x.cv s.code.length (codeV s.code)
  ope : w.ownsRow B 119 2 x.ov s.opens.length (openV s.opens)
theorem RAt.kept {w w' : World} {B bb : Nat} {P : ByteArray} {x : Rx} {s : St} (h : RAt w B bb P x s) (he : ∀ k, x.foot bb k → w'.heap[k]? = w.heap[k]?) : RAt w' B bb P x s :=
  ⟨(he bb (.inl rfl)).trans h.box, h.low, h.par, ownsRow_of h.cod (fun k hk => he k (.inr (.inl hk))), ownsRow_of h.ope (fun k hk => he k (.inr (.inr hk)))⟩
theorem RAt.lt {w : World} {B bb : Nat} {P : ByteArray} {x : Rx} {s : St} (h : RAt w B bb P x s) : bb < w.heap.size := (Array.getElem?_eq_some_iff.1 h.box).1
theorem RAt.foot_lt {w : World} {B bb : Nat} {P : ByteArray} {x : Rx} {s : St} (h : RAt w B bb P x s) : ∀ k, x.foot bb k → B ≤ k ∧ k < w.heap.size := by
  intro k hk
  rcases hk with rfl | hk | hk
  · exact ⟨h.low, h.lt⟩
  · exact h.cod.lt k hk
  · exact h.ope.lt k hk
theorem RAt.later {w w' : World} {B bb : Nat} {P : ByteArray} {x : Rx} {s : St} (h : RAt w B bb P x s) (hb : Below w.heap.size w w') : RAt w' B bb P x s :=
  h.kept fun k hk => hb.block k (h.foot_lt k hk).2
def RUpd (w : World) (B bb : Nat) (P : ByteArray) (x : Rx) (s : St) (w' : World) : Prop := ∃ x' : Rx, RAt w' B bb P x' s ∧ (∀ k, x'.foot bb k → x.foot bb k ∨ w.heap.size ≤ k) ∧ Keeps (x.foot bb) w w'
theorem RUpd.same {w : World} {B bb : Nat} {P : ByteArray} {x : Rx} {s : St} (h : RAt w B bb P x s) : RUpd w B bb P x s w := ⟨x, h, fun k hk => .inl hk, .refl _ _⟩
theorem RUpd.below {w w' : World} {B bb : Nat} {P : ByteArray} {x : Rx} {s : St} (h : RAt w B bb P x s) (hb : Below w.heap.size w w') : RUpd w B bb P x s w' := ⟨x, h.later hb, fun k hk => .inl hk, .of_below hb⟩
theorem RUpd.trans {w w1 w2 : World} {B bb : Nat} {P : ByteArray} {x x1 : Rx} {s2 : St} (hf : ∀ k, x1.foot bb k → x.foot bb k ∨ w.heap.size ≤ k) (hk : Keeps (x.foot bb) w w1) (h : RUpd w1 B bb P x1 s2 w2) : RUpd w B bb P x s2 w2 := by
  obtain ⟨x2, h1, h2, h3⟩ := h
  refine ⟨x2, h1, fun k hx => ?_, hk.trans h3 hf⟩
  rcases h2 k hx with h4 | h4
  · exact hf k h4
  · exact .inr (Nat.le_trans hk.size h4)
theorem RUpd.after {w wA w' : World} {B bb : Nat} {P : ByteArray} {x : Rx} {s : St} (hb : Below w.heap.size w wA) (u : RUpd wA B bb P x s w') : RUpd w B bb P x s w' :=
  RUpd.trans (fun k hk => .inl hk) (.of_below hb) u
theorem RUpd.from_base {w w' : World} {B bb : Nat} {P : ByteArray} {x : Rx} {s s' : St} (h0 : RAt w B bb P x s) (hB : B ≤ w.heap.size) (h : RUpd w B bb P x s' w') : Below B w w' := by
  obtain ⟨x', _, _, h3⟩ := h
  exact h3.below (fun k hk => (h0.foot_lt k hk).1) hB
theorem RUpd.drew {w w' : World} {B bb : Nat} {P : ByteArray} {x : Rx} {s : St} (h : RUpd w B bb P x s w') : RUpd w B bb P x s w'.drew := by
  obtain ⟨x', h1, h2, h3⟩ := h
  exact ⟨x', h1.kept (fun _ _ => rfl), h2, ⟨h3.os, h3.tape, h3.output, h3.size, h3.block⟩⟩
theorem RUpd.drewN {w w' : World} {B bb : Nat} {P : ByteArray} {x : Rx} {s : St} (h : RUpd w B bb P x s w') (q : Nat) : RUpd w B bb P x s (w'.drewN q) := by
  obtain ⟨x', h1, h2, h3⟩ := h
  exact ⟨x', h1.kept (fun _ _ => rfl), h2, ⟨h3.os, h3.tape, h3.output, h3.size, h3.block⟩⟩
theorem RAt.rest {w : World} {B bb : Nat} {P : ByteArray} {x : Rx} {s : St} (h : RAt w B bb P x s) : (∀ k, x.cv.ownBlock = some k → k ≠ bb ∧ x.ov.ownBlock ≠ some k) ∧ (∀ k, x.ov.ownBlock = some k → k ≠ bb) := by
  refine ⟨fun k hk => ⟨?_, kinds_ne h.cod h.ope (by decide) k hk⟩, fun k hk => ?_⟩
  · rintro rfl; exact kind_ne h.cod h.box (by decide) hk
  · rintro rfl; exact kind_ne h.ope h.box (by decide) hk
theorem RAt.setCod {w w1 : World} {B bb : Nat} {P : ByteArray} {x : Rx} {s : St} (h : RAt w B bb P x s) {v' : Value} {l : List Ins} (g : w.grownBy w1 x.cv.ownBlock) (o : w1.ownsRow B 36 4 v' l.length (codeV l)) (hv : newBlock x.cv v' w) : RUpd w B bb P x { s with code := l } (w1.setCell ⟨bb, 2, none⟩ v') := by
  obtain ⟨r2, r3⟩ := h.rest
  have hbx : w1.heap[bb]? = w.heap[bb]? := g.block bb h.lt (fun e => (r2 bb e.symm).1 rfl)
  have hold : ∀ k, k < w.heap.size → some k ≠ x.cv.ownBlock → k ≠ bb → (w1.setCell ⟨bb, 2, none⟩ v').heap[k]? = w.heap[k]? := fun k hk h1 h2 => (Below.heap_setCell _ _ _ _ h2).trans (g.block k hk h1)
  have hvb : ∀ k, v'.ownBlock = some k → k ≠ bb := fun k hk => by
    rcases hv k hk with h1 | h1
    · exact (r2 k h1).1
    · have := h.lt; omega
  refine ⟨{ x with cv := v' }, ⟨?_, h.low, h.par, ownsRow_of o (fun k hk => Below.heap_setCell _ _ _ _ (hvb k hk)), ownsRow_of h.ope (fun k hk => hold k (h.ope.lt k hk).2 (fun e => (r2 k e.symm).2 hk) (r3 k hk))⟩, ?_, ?_⟩
  · rw [box_set (hbx.trans h.box)]
    rfl
  · rintro k (rfl | hk | hk)
    · exact .inl (.inl rfl)
    · rcases hv k hk with h1 | h1
      · exact .inl (.inr (.inl h1))
      · exact .inr h1
    · exact .inl (.inr (.inr hk))
  · exact (Keeps.grown g (fun k hk => .inr (.inl hk))).trans (Keeps.setCell (F := x.foot bb) _ _ _ (.inl rfl)) (fun j hj => .inl hj)
theorem RAt.setOpe {w w1 : World} {B bb : Nat} {P : ByteArray} {x : Rx} {s : St} (h : RAt w B bb P x s) {v' : Value} {l : List Mk} (g : w.grownBy w1 x.ov.ownBlock) (o : w1.ownsRow B 119 2 v' l.length (openV l)) (hv : newBlock x.ov v' w) : RUpd w B bb P x { s with opens := l } (w1.setCell ⟨bb, 3, none⟩ v') := by
  obtain ⟨r2, r3⟩ := h.rest
  have hbx : w1.heap[bb]? = w.heap[bb]? := g.block bb h.lt (fun e => r3 bb e.symm rfl)
  have hold : ∀ k, k < w.heap.size → some k ≠ x.ov.ownBlock → k ≠ bb → (w1.setCell ⟨bb, 3, none⟩ v').heap[k]? = w.heap[k]? := fun k hk h1 h2 => (Below.heap_setCell _ _ _ _ h2).trans (g.block k hk h1)
  have hvb : ∀ k, v'.ownBlock = some k → k ≠ bb := fun k hk => by
    rcases hv k hk with h1 | h1
    · exact r3 k h1
    · have := h.lt; omega
  refine ⟨{ x with ov := v' }, ⟨?_, h.low, h.par, ownsRow_of h.cod (fun k hk => hold k (h.cod.lt k hk).2 (fun e => (r2 k hk).2 e.symm) (r2 k hk).1), ownsRow_of o (fun k hk => Below.heap_setCell _ _ _ _ (hvb k hk))⟩, ?_, ?_⟩
  · rw [box_set (hbx.trans h.box)]
    rfl
  · rintro k (rfl | hk | hk)
    · exact .inl (.inl rfl)
    · exact .inl (.inr (.inl hk))
    · rcases hv k hk with h1 | h1
      · exact .inl (.inr (.inr h1))
      · exact .inr h1
  · exact (Keeps.grown g (fun k hk => .inr (.inr hk))).trans (Keeps.setCell (F := x.foot bb) _ _ _ (.inl rfl)) (fun j hj => .inl hj)
theorem RAt.setLoc {w : World} {B bb : Nat} {P : ByteArray} {x : Rx} {s : St} (h : RAt w B bb P x s) (l : List UInt8) : RUpd w B bb P x { s with locals := l } (w.setCell ⟨bb, 1, none⟩ (.string ⟨l.toArray⟩)) := by
  obtain ⟨r2, r3⟩ := h.rest
  refine ⟨x, ⟨?_, h.low, h.par, ownsRow_of h.cod (fun k hk => Below.heap_setCell _ _ _ _ (r2 k hk).1), ownsRow_of h.ope (fun k hk => Below.heap_setCell _ _ _ _ (r3 k hk))⟩, fun k hk => .inl hk, Keeps.setCell (F := x.foot bb) _ _ _ (.inl rfl)⟩
  rw [box_set h.box]
  rfl
theorem RAt.cells {w : World} {B bb : Nat} {P : ByteArray} {cv ov : Value} {s : St} (h : RAt w B bb P ⟨cv, ov⟩ s) : w.cell? ⟨bb, 0, none⟩ = some (.string P) ∧ w.cell? ⟨bb, 1, none⟩ = some (.string ⟨s.locals.toArray⟩) ∧ w.cell? ⟨bb, 2, none⟩ = some cv ∧ w.cell? ⟨bb, 3, none⟩ = some ov := by
  have hb := h.box
  refine ⟨?_, ?_, ?_, ?_⟩ <;> (rw [cell_of_row w bb _ _ _ _ hb]; rfl)
theorem RAt.frozen {w : World} {B bb : Nat} {P : ByteArray} {x : Rx} {s : St} (h : RAt w B bb P x s) (j : Nat) : w.frozen? ⟨bb, j, none⟩ = false := frozen_of_row w bb j _ _ h.box
theorem RAt.storeOpe {w : World} {B bb : Nat} {P : ByteArray} {cv : Value} {g len cap : Nat} {s : St} (h : RAt w B bb P ⟨cv, .slice (some ⟨g, 0, none⟩) len cap⟩ s) (j : Nat) (u : Value) (l : List Mk) (hl : l.length = s.opens.length) (hset : openV l = (openV s.opens).set j u) : RUpd w B bb P ⟨cv, .slice (some ⟨g, 0, none⟩) len cap⟩ { s with opens := l } (w.setCell ⟨g, j, none⟩ u) := by
  obtain ⟨r2, r3⟩ := h.rest
  have hn : len = s.opens.length := by
    rcases h.ope.2 with ⟨h', _⟩ | ⟨g', cap', cur, h', _⟩
    · simp at h'
    · simp only [Value.slice.injEq] at h'
      exact h'.2.1
  subst hn
  obtain ⟨ho, hg⟩ := h.ope.stored j u
  refine ⟨⟨cv, .slice (some ⟨g, 0, none⟩) s.opens.length cap⟩, ⟨?_, h.low, h.par, ?_, ?_⟩, fun k hk => .inl hk, Keeps.grown hg (fun k hk => .inr (.inr (by rw [← hk]; rfl)))⟩
  · exact (hg.block bb h.lt (fun e => r3 bb e.symm rfl)).trans h.box
  · exact ownsRow_of h.cod (fun k hk => hg.block k (h.cod.lt k hk).2 (fun e => (r2 k hk).2 (by rw [e]; rfl)))
  · rw [hl, hset]
    exact ho
theorem RAt.cutOpe {w : World} {B bb : Nat} {P : ByteArray} {cv : Value} {g len cap : Nat} {s : St} (h : RAt w B bb P ⟨cv, .slice (some ⟨g, 0, none⟩) len cap⟩ s) (l : List Mk) (m : Mk) (hl : s.opens = l ++ [m]) : RUpd w B bb P ⟨cv, .slice (some ⟨g, 0, none⟩) len cap⟩ { s with opens := l } (w.setCell ⟨bb, 3, none⟩ (.slice (some ⟨g, 0, none⟩) l.length cap)) := by
  have hn : len = s.opens.length := by
    rcases h.ope.2 with ⟨h', _⟩ | ⟨g', cap', cur, h', _⟩
    · simp at h'
    · simp only [Value.slice.injEq] at h'
      exact h'.2.1
  subst hn
  have ht := ownsRow_take h.ope (m := l.length) (by rw [hl]; simp)
  rw [hl, openV_snoc, List.take_left' (by rw [openV_len])] at ht
  exact h.setOpe (World.grownBy.refl w _) ht (fun k hk => .inl hk)
end Go.Proofs.YtlbgbpgjccbbjaaDoor.Asm
