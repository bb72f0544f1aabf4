/-
  What the examples of chapters 4 to 7 share. No condition beyond what each theorem names.
-/
import Derived.Test.YtofepnojhghnnaaGreatDoorModRight
import Derived.Test.YtofepnojhghnnaaGreatDoorPgH
import Derived.Test.YtofepnojhghnnaaGreatDoorPgAny
namespace Go.Proofs.YtofepnojhghnnaaGreatDoor.Mod
open Go.RowKit Go.Maps Go.Lib Go.Proofs.YtofepnojhghnnaaGreatDoor.Op Go.Proofs.YtofepnojhghnnaaGreatDoor.Pg
set_option linter.unusedVariables false
theorem steps_nil (w : World) : StepsAt w (.slice none 0 0) [] := ListAt.mk (l := ([] : List Step)) (Nat.zero_le _) (fun i x hi => by cases i <;> cases hi)
theorem code_nil (w : World) : CodeAt w (.slice none 0 0) [] := ListAt.mk (l := ([] : List InsL)) (Nat.zero_le _) (fun i x hi => by cases i <;> cases hi)
theorem made_opsWf (l : List Step) : opsWf (madeP l) := fun x hx => by
  have h := (made_alls (P := fun x => 0 ≤ x.op ∧ x.op < 256) ⟨by decide, fun a => (show (0 : Int) ≤ 65 ∧ (65 : Int) < 256 by decide), fun {o n} ho hn => by dsimp only; omega, fun {o a b} ho ha hb => by dsimp only; omega, fun {o k} ho hk => by dsimp only; omega, fun {o} ho => by have := List.all_eq_true.1 plain_small o ho; rw [decide_eq_true_iff] at this; exact this, fun {o r} ho hr => by dsimp only; omega⟩ l (fun t ht => (show (0 : Int) ≤ 66 ∧ (66 : Int) < 256 by decide))) x hx
  show (decide (IntKind.i64.min ≤ x.op) && decide (x.op ≤ IntKind.i64.max)) = true
  rw [Bool.and_eq_true, decide_eq_true_iff, decide_eq_true_iff, show IntKind.i64.min = -9223372036854775808 by decide, show IntKind.i64.max = 9223372036854775807 by decide]
  omega
theorem made_len (l : List Step) : (madeP l).code.length ≤ 100000 := by
  have hI := Inv.run Inv.start (l.take 60)
  have hI2 : Inv (runP .start (l.take 60)) 1200 := hI.mono (by rw [List.length_take]; omega)
  obtain ⟨hI3, hO3⟩ := shutAll_inv _ _ _ hI2 rfl
  have h1 := (hI3.level (b := ⟨0, 126, 0⟩) (.inr (.inl rfl)) (by unfold topH; rw [hO3]; rfl)).size
  have h2 : (madeP l).code.length = (levelP (shutAll (runP .start (l.take 60)).opens.length (runP .start (l.take 60))) ⟨0, 126, 0⟩).code.length + 1 := by unfold madeP lastP putP; simp
  omega
theorem code_toL (l : List Ins) : opsOf (l.map toL) = l.map Ins.op := by
  unfold opsOf
  rw [List.map_map]
  rfl
theorem fn_right (c : List Ins) (h1 : structB [] (c.map Ins.op) = true) (h2 : ∀ x ∈ c, okI x = true) : rightFunc ⟨0, ⟨#[127, 126]⟩, c.map toL⟩ = true := by
  unfold rightFunc
  have e1 : wordB 0 = true := by decide
  have e2 : typesB ⟨#[127, 126]⟩ 4096 = true := by decide
  have e3 : (c.map toL).all rightIns = true := by
    rw [List.all_eq_true]
    intro y hy
    obtain ⟨x, hx, rfl⟩ := List.mem_map.1 hy
    exact h2 x hx
  dsimp only
  rw [code_toL, e1, e2, h1, e3]
  rfl
theorem one_all {α : Type} (x : α) (q : α → Bool) (h : q x = true) : allB [x] q = true := by
  unfold allB
  simp [h]
theorem mod_right (c : List Ins) (h1 : structB [] (c.map Ins.op) = true) (h2 : ∀ x ∈ c, okI x = true) : rightM (modOf c) = true := by
  unfold rightM modOf
  dsimp only
  rw [one_all _ _ (fn_right c h1 h2), one_all _ rightFT (by decide), one_all _ rightMem (by decide), one_all _ rightData (by kernel_rfl), one_all _ rightExp (by kernel_rfl)]
  rw [show allB [(⟨127, true, 5⟩ : GlobP), ⟨126, true, -5⟩] rightGlob = true by kernel_rfl]
  rfl
theorem made_right (l : List Step) : rightM (modOf (madeP l).code) = true := mod_right _ (made_struct l) (made_oks l)
/-- a slice of one instruction, its block new -/
theorem one_code (W : World) (o a b : Int) (hw : (Lit.int .i64 o).wf = true) (f : Nat × Nat) : CodeAt (W.alloc (.cells #[.int .i64 o, .int .i64 a, .int .i64 b, .slice none 0 0] 33)) (.slice (some ⟨W.heap.size, 0, none⟩) 1 1) [⟨o, a, b, []⟩] := by
  refine row_of_block (R := isIns) (heap_alloc_new _ _) [⟨o, a, b, []⟩] 1 1 rfl (by simp) (fun i x hx => ?_)
  have hi := (List.getElem?_eq_some_iff.1 hx).1
  obtain rfl : i = 0 := by simp at hi; exact hi
  obtain rfl := Option.some.inj hx
  exact ⟨⟨.slice none 0 0, rfl, .inl ⟨rfl, rfl⟩, hw⟩, rfl⟩
/-- a module's cells in a block, and all else as it was -/
abbrev HeldM (p : Nat) (t f me g e : Value) (st : Int) (d : Value) (W0 W : World) : Prop := W.cell? ⟨p, 0, none⟩ = some t ∧ W.cell? ⟨p, 1, none⟩ = some f ∧ W.cell? ⟨p, 2, none⟩ = some me ∧ W.cell? ⟨p, 3, none⟩ = some g ∧ W.cell? ⟨p, 4, none⟩ = some e ∧ W.cell? ⟨p, 5, none⟩ = some (.int .i64 st) ∧ W.cell? ⟨p, 6, none⟩ = some d ∧ Below W0.heap.size W0 W
theorem heldM_later {p : Nat} {t f me g e : Value} {st : Int} {d : Value} {W0 W W' : World} (c : Below W.heap.size W W') (h : HeldM p t f me g e st d W0 W) : HeldM p t f me g e st d W0 W' :=
  ⟨cell_later c h.1, cell_later c h.2.1, cell_later c h.2.2.1, cell_later c h.2.2.2.1, cell_later c h.2.2.2.2.1, cell_later c h.2.2.2.2.2.1, cell_later c h.2.2.2.2.2.2.1, h.2.2.2.2.2.2.2.trans (c.mono h.2.2.2.2.2.2.2.size)⟩
theorem heldM_alloc {p : Nat} {t f me g e : Value} {st : Int} {d : Value} {W0 W : World} (o : Obj) (h : HeldM p t f me g e st d W0 W) : HeldM p t f me g e st d W0 (W.alloc o) := heldM_later ((Below.refl _ _).alloc (Nat.le_refl _) o) h
theorem heldM_drew {p : Nat} {t f me g e : Value} {st : Int} {d : Value} {W0 W : World} (h : HeldM p t f me g e st d W0 W) : HeldM p t f me g e st d W0 W.drew := heldM_later (Below.refl _ _).drew h
end Go.Proofs.YtofepnojhghnnaaGreatDoor.Mod
