/-
  What package module's Copy answers, its first part: words for it. No condition but what each theorem names.
-/
import Derived.Test.YthkdegmnnbepdaaGreatDoorModCopyA
import Derived.Test.YthkdegmnnbepdaaGreatDoorModSame
namespace Go.Proofs.YthkdegmnnbepdaaGreatDoor.Mod
open Go.RowKit Go.Maps Go.Proofs.YthkdegmnnbepdaaGreatDoor.Op
set_option linter.unusedVariables false
abbrev HeldC (b : Nat) (t f me g e : Value) (st : Int) (d : Value) (W0 W : World) : Prop := W.cell? ⟨b, 0, none⟩ = some t ∧ W.cell? ⟨b, 1, none⟩ = some f ∧ W.cell? ⟨b, 2, none⟩ = some me ∧ W.cell? ⟨b, 3, none⟩ = some g ∧ W.cell? ⟨b, 4, none⟩ = some e ∧ W.cell? ⟨b, 5, none⟩ = some (.int .i64 st) ∧ W.cell? ⟨b, 6, none⟩ = some d ∧ Below W0.heap.size W0 W
theorem heldC_later {b : Nat} {t f me g e : Value} {st : Int} {d : Value} {W0 W W' : World} (c : Below W.heap.size W W') (h : HeldC b t f me g e st d W0 W) : HeldC b t f me g e st d W0 W' :=
  ⟨cell_later c h.1, cell_later c h.2.1, cell_later c h.2.2.1, cell_later c h.2.2.2.1, cell_later c h.2.2.2.2.1, cell_later c h.2.2.2.2.2.1, cell_later c h.2.2.2.2.2.2.1, h.2.2.2.2.2.2.2.trans (c.mono h.2.2.2.2.2.2.2.size)⟩
theorem heldC_alloc {b : Nat} {t f me g e : Value} {st : Int} {d : Value} {W0 W : World} (o : Obj) (h : HeldC b t f me g e st d W0 W) : HeldC b t f me g e st d W0 (W.alloc o) := heldC_later ((Below.refl _ _).alloc (Nat.le_refl _) o) h
theorem heldC_drew {b : Nat} {t f me g e : Value} {st : Int} {d : Value} {W0 W : World} (h : HeldC b t f me g e st d W0 W) : HeldC b t f me g e st d W0 W.drew := heldC_later (Below.refl _ _).drew h
theorem heldC_set {b : Nat} {t f me g e : Value} {st : Int} {d : Value} {W0 W : World} (hb : b < W0.heap.size) {p : Nat} (hp : W0.heap.size ≤ p) (j : Nat) (u : Value) (h : HeldC b t f me g e st d W0 W) : HeldC b t f me g e st d W0 (W.setCell ⟨p, j, none⟩ u) := by
  have k : ∀ (i : Nat), (W.setCell ⟨p, j, none⟩ u).cell? ⟨b, i, none⟩ = W.cell? ⟨b, i, none⟩ := fun i => World.cell?_setCell_other W _ _ _ (fun e => by first | (simp at e; done) | (simp at e; omega))
  exact ⟨(k 0).trans h.1, (k 1).trans h.2.1, (k 2).trans h.2.2.1, (k 3).trans h.2.2.2.1, (k 4).trans h.2.2.2.2.1, (k 5).trans h.2.2.2.2.2.1, (k 6).trans h.2.2.2.2.2.2.1, h.2.2.2.2.2.2.2.setCell (p := ⟨p, j, none⟩) hp u⟩
theorem heldC_sets {b : Nat} {t f me g e : Value} {st : Int} {d : Value} {W0 W : World} (hb : b < W0.heap.size) {p : Nat} (hp : W0.heap.size ≤ p) (u0 u1 u2 u3 u4 u5 u6 : Value) (h : HeldC b t f me g e st d W0 W) : HeldC b t f me g e st d W0 (((((((W.setCell ⟨p, 0, none⟩ u0).setCell ⟨p, 1, none⟩ u1).setCell ⟨p, 2, none⟩ u2).setCell ⟨p, 3, none⟩ u3).setCell ⟨p, 4, none⟩ u4).setCell ⟨p, 5, none⟩ u5).setCell ⟨p, 6, none⟩ u6) :=
  heldC_set hb hp _ _ (heldC_set hb hp _ _ (heldC_set hb hp _ _ (heldC_set hb hp _ _ (heldC_set hb hp _ _ (heldC_set hb hp _ _ (heldC_set hb hp _ _ h))))))
abbrev zeroC : Array Value := #[.slice none 0 0, .slice none 0 0, .slice none 0 0, .slice none 0 0, .slice none 0 0, .int .i64 0, .slice none 0 0]
def ZeroAt (W : World) (b : Nat) : Prop := W.heap[b]? = some (.cells zeroC 29 (0, 0))
theorem zero_after {W W' : World} (c : Below (W.alloc (.cells zeroC 29)).heap.size (W.alloc (.cells zeroC 29)) W') : ZeroAt W' W.heap.size :=
  (c.block _ (by simp)).trans (heap_alloc_new _ _)
theorem zero_after_d1 {W W' : World} (c : Below (W.drew.alloc (.cells zeroC 29)).heap.size (W.drew.alloc (.cells zeroC 29)) W') : ZeroAt W' W.heap.size :=
  (c.block _ (by simp)).trans (heap_alloc_new W.drew _)
theorem zero_after_d2 {W W' : World} (c : Below ((W.alloc (.cells zeroC 29)).drew).heap.size (W.alloc (.cells zeroC 29)).drew W') : ZeroAt W' W.heap.size :=
  (c.block _ (by simp)).trans (heap_alloc_new W _)
theorem zero_later {W W' : World} {b : Nat} (z : ZeroAt W b) (c : Below W.heap.size W W') : ZeroAt W' b := (c.block _ (Array.getElem?_eq_some_iff.1 z).1).trans z
theorem zero_cells {W : World} {b : Nat} (z : ZeroAt W b) : (W.cell? ⟨b, 0, none⟩ = some (.slice none 0 0) ∧ W.cell? ⟨b, 1, none⟩ = some (.slice none 0 0) ∧ W.cell? ⟨b, 2, none⟩ = some (.slice none 0 0) ∧ W.cell? ⟨b, 3, none⟩ = some (.slice none 0 0) ∧ W.cell? ⟨b, 4, none⟩ = some (.slice none 0 0) ∧ W.cell? ⟨b, 5, none⟩ = some (.int .i64 0) ∧ W.cell? ⟨b, 6, none⟩ = some (.slice none 0 0)) ∧ (W.frozen? ⟨b, 0, none⟩ = false ∧ W.frozen? ⟨b, 1, none⟩ = false ∧ W.frozen? ⟨b, 2, none⟩ = false ∧ W.frozen? ⟨b, 3, none⟩ = false ∧ W.frozen? ⟨b, 4, none⟩ = false ∧ W.frozen? ⟨b, 5, none⟩ = false ∧ W.frozen? ⟨b, 6, none⟩ = false) :=
  ⟨⟨cell_of_row _ _ _ _ _ _ z, cell_of_row _ _ _ _ _ _ z, cell_of_row _ _ _ _ _ _ z, cell_of_row _ _ _ _ _ _ z, cell_of_row _ _ _ _ _ _ z, cell_of_row _ _ _ _ _ _ z, cell_of_row _ _ _ _ _ _ z⟩, frozen_of_row _ _ _ _ _ z, frozen_of_row _ _ _ _ _ z, frozen_of_row _ _ _ _ _ z, frozen_of_row _ _ _ _ _ z, frozen_of_row _ _ _ _ _ z, frozen_of_row _ _ _ _ _ z, frozen_of_row _ _ _ _ _ z⟩
theorem box_setC {w : World} {bb : Nat} {cs ds : Array Value} {t : TypeId} (h : w.heap[bb]? = some (.cells cs t (0, 0))) (j : Nat) (u : Value) (hd : cs.setIfInBounds j u = ds) : (w.setCell ⟨bb, j, none⟩ u).heap[bb]? = some (.cells ds t (0, 0)) := by
  rw [← hd]
  exact box_set h j u
theorem seven_setC {W : World} {b : Nat} {t : TypeId} {c0 c1 c2 c3 c4 c5 c6 : Value} (h : W.heap[b]? = some (.cells #[c0, c1, c2, c3, c4, c5, c6] t (0, 0))) (v0 v1 v2 v3 v4 v5 v6 : Value) : ∀ WF, (((((((W.setCell ⟨b, 0, none⟩ v0).setCell ⟨b, 1, none⟩ v1).setCell ⟨b, 2, none⟩ v2).setCell ⟨b, 3, none⟩ v3).setCell ⟨b, 4, none⟩ v4).setCell ⟨b, 5, none⟩ v5).setCell ⟨b, 6, none⟩ v6) = WF → WF.heap[b]? = some (.cells #[v0, v1, v2, v3, v4, v5, v6] t (0, 0)) ∧ WF.heap.size = W.heap.size ∧ Keeps (fun k => k = b) W WF := by
  intro WF hWF
  have one : ∀ (V : World) (cs ds : Array Value) (j : Nat) (u : Value), V.heap[b]? = some (.cells cs t (0, 0)) → cs.setIfInBounds j u = ds → V.heap.size = W.heap.size → Keeps (fun k => k = b) W V → (V.setCell ⟨b, j, none⟩ u).heap[b]? = some (.cells ds t (0, 0)) ∧ (V.setCell ⟨b, j, none⟩ u).heap.size = W.heap.size ∧ Keeps (fun k => k = b) W (V.setCell ⟨b, j, none⟩ u) := fun V cs ds j u h1 h2 h3 h4 =>
    ⟨box_setC h1 j u h2, by rw [← h3]; simp [World.setCell], h4.trans (Keeps.setCell (F := fun k => k = b) V _ _ rfl) (fun j hj => .inl hj)⟩
  obtain ⟨W1, hW1⟩ : ∃ W1, W.setCell ⟨b, 0, none⟩ v0 = W1 := ⟨_, rfl⟩
  have g1 := one W _ #[v0, c1, c2, c3, c4, c5, c6] 0 v0 h rfl rfl (.refl _ _)
  rw [hW1] at g1 hWF
  obtain ⟨W2, hW2⟩ : ∃ W2, W1.setCell ⟨b, 1, none⟩ v1 = W2 := ⟨_, rfl⟩
  have g2 := one W1 _ #[v0, v1, c2, c3, c4, c5, c6] 1 v1 g1.1 rfl g1.2.1 g1.2.2
  rw [hW2] at g2 hWF
  obtain ⟨W3, hW3⟩ : ∃ W3, W2.setCell ⟨b, 2, none⟩ v2 = W3 := ⟨_, rfl⟩
  have g3 := one W2 _ #[v0, v1, v2, c3, c4, c5, c6] 2 v2 g2.1 rfl g2.2.1 g2.2.2
  rw [hW3] at g3 hWF
  obtain ⟨W4, hW4⟩ : ∃ W4, W3.setCell ⟨b, 3, none⟩ v3 = W4 := ⟨_, rfl⟩
  have g4 := one W3 _ #[v0, v1, v2, v3, c4, c5, c6] 3 v3 g3.1 rfl g3.2.1 g3.2.2
  rw [hW4] at g4 hWF
  obtain ⟨W5, hW5⟩ : ∃ W5, W4.setCell ⟨b, 4, none⟩ v4 = W5 := ⟨_, rfl⟩
  have g5 := one W4 _ #[v0, v1, v2, v3, v4, c5, c6] 4 v4 g4.1 rfl g4.2.1 g4.2.2
  rw [hW5] at g5 hWF
  obtain ⟨W6, hW6⟩ : ∃ W6, W5.setCell ⟨b, 5, none⟩ v5 = W6 := ⟨_, rfl⟩
  have g6 := one W5 _ #[v0, v1, v2, v3, v4, v5, c6] 5 v5 g5.1 rfl g5.2.1 g5.2.2
  rw [hW6] at g6 hWF
  have g7 := one W6 _ #[v0, v1, v2, v3, v4, v5, v6] 6 v6 g6.1 rfl g6.2.1 g6.2.2
  rw [hWF] at g7
  exact g7

theorem link_alloc {W W' : World} {o : Obj} (c : Below (W.alloc o).heap.size (W.alloc o) W') : Below W.heap.size W W' := ((Below.refl _ _).alloc (Nat.le_refl _) o).trans (c.mono (by simp))
theorem link_drew {W W' : World} (c : Below W.drew.heap.size W.drew W') : Below W.heap.size W W' := ((Below.refl _ _).drew).trans c
theorem link_alloc_drew {W W' : World} {o : Obj} (c : Below (W.alloc o).drew.heap.size (W.alloc o).drew W') : Below W.heap.size W W' := link_alloc (link_drew c)
theorem link_drew_alloc {W W' : World} {o : Obj} (c : Below (W.drew.alloc o).heap.size (W.drew.alloc o) W') : Below W.heap.size W W' := link_drew (link_alloc c)
theorem OwnAt.lift {W W' : World} {B B' : Nat} {e : TypeId} {size : Nat} {v : Value} {rows : List (List Value)} (h : OwnAt W B e size v rows) (hB : B' ≤ B) (c : Below W.heap.size W W') : OwnAt W' B' e size v rows := ⟨ownsRow_base (h.later c).1 hB, h.2⟩
theorem OwnAt.set {W : World} {B : Nat} {e : TypeId} {size : Nat} {v : Value} {rows : List (List Value)} {W' : World} {b : Nat} {cs : Array Value} {t : TypeId} {f : Nat × Nat} (h : OwnAt W B e size v rows) (hk : W.heap[b]? = some (.cells cs t f)) (hne : e ≠ t) (k : Keeps (fun j => j = b) W W') : OwnAt W' B e size v rows :=
  ⟨ownsRow_of h.1 (fun j hj => k.block j (h.1.lt j hj).2 (fun e => kind_ne h.1 hk hne (e ▸ hj))), h.2⟩
/-- the copy's own block and its own lists -/
def HeadAt (b : Nat) (t f me g e : Value) (st : Int) (d : Value) (W0 : World) (ob : Nat) (vt vf vm vg ve vd : Value) (rt rf rm rg re rd : List (List Value)) (W : World) : Prop :=
  HeldC b t f me g e st d W0 W ∧ W0.heap.size ≤ ob ∧ W.heap[ob]? = some (.cells #[vt, vf, vm, vg, ve, .int .i64 st, vd] 29 (0, 0)) ∧ OwnAt W W0.heap.size 68 2 vt rt ∧ OwnAt W W0.heap.size 33 3 vf rf ∧ OwnAt W W0.heap.size 62 2 vm rm ∧ OwnAt W W0.heap.size 60 3 vg rg ∧ OwnAt W W0.heap.size 58 3 ve re ∧ OwnAt W W0.heap.size 49 2 vd rd
theorem head_alloc {b : Nat} {t f me g e : Value} {st : Int} {d : Value} {W0 : World} {vt vf vm vg ve vd : Value} {rt rf rm rg re rd : List (List Value)} {W : World} (h : HeldC b t f me g e st d W0 W) (oa : OwnAt W W0.heap.size 68 2 vt rt) (ob : OwnAt W W0.heap.size 33 3 vf rf) (oc : OwnAt W W0.heap.size 62 2 vm rm) (od : OwnAt W W0.heap.size 60 3 vg rg) (oe : OwnAt W W0.heap.size 58 3 ve re) (of : OwnAt W W0.heap.size 49 2 vd rd) :
    HeadAt b t f me g e st d W0 W.heap.size vt vf vm vg ve vd rt rf rm rg re rd (W.alloc (.cells #[vt, vf, vm, vg, ve, .int .i64 st, vd] 29)) := by
  have c : Below W.heap.size W (W.alloc (.cells #[vt, vf, vm, vg, ve, .int .i64 st, vd] 29)) := (Below.refl _ _).alloc (Nat.le_refl _) _
  exact ⟨heldC_later c h, h.2.2.2.2.2.2.2.size, heap_alloc_new _ _, oa.later c, ob.later c, oc.later c, od.later c, oe.later c, of.later c⟩
theorem head_sets {b : Nat} {t f me g e : Value} {st : Int} {d : Value} {W0 : World} {vt vf vm vg ve vd : Value} {rt rf rm rg re rd : List (List Value)} {W : World} {p : Nat} (hb : b < W0.heap.size) (hp : W0.heap.size ≤ p) (z : ZeroAt W p) (h : HeldC b t f me g e st d W0 W) (oa : OwnAt W W0.heap.size 68 2 vt rt) (ob : OwnAt W W0.heap.size 33 3 vf rf) (oc : OwnAt W W0.heap.size 62 2 vm rm) (od : OwnAt W W0.heap.size 60 3 vg rg) (oe : OwnAt W W0.heap.size 58 3 ve re) (of : OwnAt W W0.heap.size 49 2 vd rd) :
    HeadAt b t f me g e st d W0 p vt vf vm vg ve vd rt rf rm rg re rd (((((((W.setCell ⟨p, 0, none⟩ vt).setCell ⟨p, 1, none⟩ vf).setCell ⟨p, 2, none⟩ vm).setCell ⟨p, 3, none⟩ vg).setCell ⟨p, 4, none⟩ ve).setCell ⟨p, 5, none⟩ (.int .i64 st)).setCell ⟨p, 6, none⟩ vd) := by
  obtain ⟨hb7, hz7, hk7⟩ := seven_setC z vt vf vm vg ve (.int .i64 st) vd _ rfl
  exact ⟨heldC_sets hb hp _ _ _ _ _ _ _ h, hp, hb7, oa.set z (by decide) hk7, ob.set z (by decide) hk7, oc.set z (by decide) hk7, od.set z (by decide) hk7, oe.set z (by decide) hk7, of.set z (by decide) hk7⟩
end Go.Proofs.YthkdegmnnbepdaaGreatDoor.Mod
