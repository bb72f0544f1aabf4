/-
  The law of labels: words; the loop. No condition beyond what each theorem names.
-/
import Derived.Test.YthkdegmnnbepdaaGreatDoorModEx
import Derived.Test.YthkdegmnnbepdaaGreatDoorModApp
import Derived.Test.YthkdegmnnbepdaaGreatDoorModOpen
namespace Go.Proofs.YthkdegmnnbepdaaGreatDoor.Mod
open Go.RowKit Go.Maps Go.Proofs.YthkdegmnnbepdaaGreatDoor.Op Go.Proofs.YthkdegmnnbepdaaGreatDoor.Pg
set_option linter.unusedVariables false
/-- the module of a br_table with labels -/
def modL (ls : List Int) : ModP := ⟨[], [⟨0, ⟨#[]⟩, [⟨14, 0, 0, ls⟩, ⟨11, 0, 0, []⟩]⟩], [], [], [], -1, []⟩
theorem one_atL {α : Type} {x0 : α} {i : Nat} {x : α} (hi : [x0][i]? = some x) : i = 0 ∧ x = x0 := by
  match i, hi with
  | 0, hi => exact ⟨rfl, by simpa using hi.symm⟩
  | i + 1, hi => simp at hi
theorem list_nil {α : Type} {size : Nat} {R : World → List Value → α → Prop} (w : World) : ListAt size R w (.slice none 0 0) [] := ListAt.mk (l := ([] : List α)) (Nat.zero_le _) (fun i x hi => by cases i <;> cases hi)
theorem modL_at {W : World} {b1 b2 : Nat} {lv : Value} {ls : List Int}
    (h2 : W.heap[b2]? = some (.cells #[.int .i64 0, .string ⟨#[]⟩, .slice (some ⟨b1, 0, none⟩) 2 2] 33 (0, 0)))
    (h1 : W.heap[b1]? = some (.cells #[.int .i64 14, .int .i64 0, .int .i64 0, lv, .int .i64 11, .int .i64 0, .int .i64 0, .slice none 0 0] 40 (0, 0))) (hl : IntsAt W lv ls) :
    ModAt W (.slice none 0 0) (.slice (some ⟨b2, 0, none⟩) 1 1) (.slice none 0 0) (.slice none 0 0) (.slice none 0 0) (-1) (.slice none 0 0) (modL ls) := by
  have hcode : CodeAt W (.slice (some ⟨b1, 0, none⟩) 2 2) [⟨14, 0, 0, ls⟩, ⟨11, 0, 0, []⟩] := by
    refine row_of_block (R := isIns) h1 _ _ _ rfl (by simp) (fun i x hi => ?_)
    match i, hi with
    | 0, hi => obtain rfl := Option.some.inj hi; exact ⟨⟨lv, rfl, hl, (show (Lit.int .i64 14).wf = true by decide)⟩, rfl⟩
    | 1, hi => obtain rfl := Option.some.inj hi; exact ⟨⟨.slice none 0 0, rfl, .inl ⟨rfl, rfl⟩, by decide⟩, rfl⟩
    | i + 2, hi => simp at hi
  refine ⟨list_nil W, ?_, list_nil W, list_nil W, list_nil W, rfl, list_nil W⟩
  refine row_of_block h2 _ _ _ rfl (by simp [modL]) (fun i x hi => ?_)
  obtain ⟨rfl, rfl⟩ := one_atL hi
  exact ⟨⟨_, rfl, hcode, (show 0 ≤ 9223372036854775807 by decide), (show 2 * 48 ≤ 140737488355328 by decide)⟩, rfl⟩
theorem modL_room (ls : List Int) (h : ls.length ≤ 1000) : ModRoom (modL ls) := by
  refine ⟨⟨Nat.zero_le _, fun x hx => by cases hx⟩, ⟨(show 1 ≤ 1000000000 by decide), fun x hx => ?_⟩, Nat.zero_le _, Nat.zero_le _, ⟨Nat.zero_le _, fun x hx => by cases hx⟩, Nat.zero_le _, fun x hx => by cases hx⟩
  obtain rfl := List.mem_singleton.1 hx
  refine ⟨(show 0 ≤ 9223372036854775807 by decide), (show 2 * 48 ≤ 140737488355328 by decide), fun y hy => ?_⟩
  rcases List.mem_cons.1 hy with rfl | hy
  · show ls.length ≤ _
    omega
  · obtain rfl := List.mem_singleton.1 hy
    exact Nat.zero_le _
/-- the box of the br_table, its labels -/
def LabBox (B xb : Nat) (lv : Value) (ls : List Int) (w wr : World) : Prop := wr.heap[xb]? = some (.cells #[.int .i64 14, .int .i64 0, .int .i64 0, lv] 40 (0, 0)) ∧ LabOwn wr B lv ls ∧ Below w.heap.size w wr ∧ B ≤ wr.heap.size
theorem one_lab (z : Int) : ∀ r ∈ [[Value.int .i64 z]], ∀ u ∈ r, u.oneCell' = true := by
  intro r hr u hu
  rw [List.mem_singleton.1 hr] at hu
  rw [List.mem_singleton.1 hu]
  rfl
theorem keeps_drew {F : Nat → Prop} {w w' : World} (h : Keeps F w.drew w') : Keeps F w w' := ⟨h.os, h.tape, h.output, h.size, h.block⟩
/-- a label more -/
theorem lab_more {B xb : Nat} {lv lv' : Value} {ls : List Int} {z : Int} {w wr w1 : World} {o : Obj} (h : LabBox B xb lv ls w wr) (hB : w.heap.size ≤ B) (hxb : B ≤ xb) (ho : OwnAt w1 B 3 1 lv' ((ls.map fun z => [.int .i64 z]) ++ [[.int .i64 z]])) (k : Keeps (fun j => lv.ownBlock = some j) (wr.alloc o) w1) :
    LabBox B xb lv' (ls ++ [z]) w (w1.setCell ⟨xb, 3, none⟩ lv') := by
  obtain ⟨h1, h2, h3, h4⟩ := h
  have ha : Below wr.heap.size wr (wr.alloc o) := (Below.refl _ _).alloc (Nat.le_refl _) _
  have k2 : Keeps (fun j => lv.ownBlock = some j) wr w1 := Keeps.trans (Keeps.of_below ha) k (fun j hj => .inl hj)
  have hb1 : w1.heap[xb]? = _ := (k2.block xb (Array.getElem?_eq_some_iff.1 h1).1 (fun e => kind_ne h2.1 h1 (by decide) e)).trans h1
  have k3 : Keeps (fun j => j = xb) w1 (w1.setCell ⟨xb, 3, none⟩ lv') := Keeps.setCell (F := fun j => j = xb) w1 _ _ rfl
  refine ⟨box_set' hb1 _ _ rfl, ?_, ?_, ?_⟩
  · unfold LabOwn
    rw [List.map_append]
    exact ho.keepK k3 ⟨_, _, hb1⟩ (by decide)
  · refine h3.trans ((k2.below (B := w.heap.size) (fun j hj => Nat.le_trans hB (h2.1.lt j hj).1) h3.size).trans ?_)
    exact k3.below (fun j hj => by have : j = xb := hj; omega) (Nat.le_trans h3.size k2.size)
  · show B ≤ (w1.setCell _ _).heap.size
    simp only [World.setCell, Array.size_modify]
    exact Nat.le_trans h4 k2.size
/-- the br_table, its labels, its module -/
structure LabAll (w : World) (xb b : Nat) (lv : Value) (ls : List Int) (W : World) : Prop where
  hx : W.heap[xb]? = some (.cells #[.int .i64 14, .int .i64 0, .int .i64 0, lv] 40 (0, 0))
  h1 : W.heap[b]? = some (.cells #[.int .i64 14, .int .i64 0, .int .i64 0, lv, .int .i64 11, .int .i64 0, .int .i64 0, .slice none 0 0] 40 (0, 0))
  h2 : W.heap[b + 1]? = some (.cells #[.int .i64 0, .string ⟨#[]⟩, .slice (some ⟨b, 0, none⟩) 2 2] 33 (0, 0))
  hm : W.heap[b + 1 + 1]? = some (.cells #[.slice none 0 0, .slice (some ⟨b + 1, 0, none⟩) 1 1, .slice none 0 0, .slice none 0 0, .slice none 0 0, .int .i64 (-1), .slice none 0 0] 29 (0, 0))
  hl : LabOwn W xb lv ls
  hb : Below w.heap.size w W
theorem LabAll.later {w W W' : World} {xb b : Nat} {lv : Value} {ls : List Int} (h : LabAll w xb b lv ls W) (c : Below W.heap.size W W') : LabAll w xb b lv ls W' := by
  have hlt : ∀ {k : Nat} {cs : Array Value} {t : TypeId}, W.heap[k]? = some (Obj.cells cs t (0, 0)) → W'.heap[k]? = some (Obj.cells cs t (0, 0)) := fun hk => (c.block _ (Array.getElem?_eq_some_iff.1 hk).1).trans hk
  exact ⟨hlt h.hx, hlt h.h1, hlt h.h2, hlt h.hm, OwnAt.later h.hl c, h.hb.trans (c.mono h.hb.size)⟩
theorem LabAll.mod {w W : World} {xb b : Nat} {lv : Value} {ls : List Int} (h : LabAll w xb b lv ls W) : ModAt W (.slice none 0 0) (.slice (some ⟨b + 1, 0, none⟩) 1 1) (.slice none 0 0) (.slice none 0 0) (.slice none 0 0) (-1) (.slice none 0 0) (modL ls) := modL_at h.h2 h.h1 (LabOwn.ints h.hl)
theorem labAll_start {w wq W : World} {xb : Nat} {lv : Value} {ls : List Int} (h : LabBox xb xb lv ls w wq) (hW : (((wq.alloc (.cells #[.int .i64 14, .int .i64 0, .int .i64 0, lv, .int .i64 11, .int .i64 0, .int .i64 0, .slice none 0 0] 40)).alloc (.cells #[.int .i64 0, .string ⟨#[]⟩, .slice (some ⟨wq.heap.size, 0, none⟩) 2 2] 33)).alloc (.cells #[.slice none 0 0, .slice (some ⟨wq.heap.size + 1, 0, none⟩) 1 1, .slice none 0 0, .slice none 0 0, .slice none 0 0, .int .i64 (-1), .slice none 0 0] 29)) = W) : LabAll w xb wq.heap.size lv ls W := by
  obtain ⟨h1, h2, h3, h4⟩ := h
  have hA1 := heap_alloc_new wq (.cells #[.int .i64 14, .int .i64 0, .int .i64 0, lv, .int .i64 11, .int .i64 0, .int .i64 0, .slice none 0 0] 40)
  obtain ⟨W1, hW1⟩ : ∃ W1, wq.alloc (.cells #[.int .i64 14, .int .i64 0, .int .i64 0, lv, .int .i64 11, .int .i64 0, .int .i64 0, .slice none 0 0] 40) = W1 := ⟨_, rfl⟩
  have s1 : W1.heap.size = wq.heap.size + 1 := by rw [← hW1]; simp
  have b1 : Below wq.heap.size wq W1 := by rw [← hW1]; exact (Below.refl _ _).alloc (Nat.le_refl _) _
  rw [hW1] at hA1 hW
  have hA2 := heap_alloc_new W1 (.cells #[.int .i64 0, .string ⟨#[]⟩, .slice (some ⟨wq.heap.size, 0, none⟩) 2 2] 33)
  obtain ⟨W2, hW2⟩ : ∃ W2, W1.alloc (.cells #[.int .i64 0, .string ⟨#[]⟩, .slice (some ⟨wq.heap.size, 0, none⟩) 2 2] 33) = W2 := ⟨_, rfl⟩
  have s2 : W2.heap.size = wq.heap.size + 1 + 1 := by rw [← hW2]; simp [s1]
  have b2 : Below W1.heap.size W1 W2 := by rw [← hW2]; exact (Below.refl _ _).alloc (Nat.le_refl _) _
  rw [hW2] at hA2 hW
  rw [s1] at hA2
  have hA3 := heap_alloc_new W2 (.cells #[.slice none 0 0, .slice (some ⟨wq.heap.size + 1, 0, none⟩) 1 1, .slice none 0 0, .slice none 0 0, .slice none 0 0, .int .i64 (-1), .slice none 0 0] 29)
  have b3 : Below W2.heap.size W2 W := by rw [← hW]; exact (Below.refl _ _).alloc (Nat.le_refl _) _
  rw [hW, s2] at hA3
  have b13 : Below W1.heap.size W1 W := b2.trans (b3.mono b2.size)
  have b03 : Below wq.heap.size wq W := b1.trans (b13.mono b1.size)
  have hlt : ∀ {W W' : World} (c : Below W.heap.size W W') {k : Nat} {o : Obj}, W.heap[k]? = some o → W'.heap[k]? = some o := fun {W W'} c {k o} hk => (c.block _ (Array.getElem?_eq_some_iff.1 hk).1).trans hk
  exact ⟨hlt b03 h1, hlt b13 hA1, hlt b3 hA2, hA3, OwnAt.later h2 b03, h3.trans (b03.mono h3.size)⟩
/-- the first label turned -/
theorem labAll_turn {w W : World} {xb b gl n cap : Nat} {ls : List Int} {z : Int} (h : LabAll w xb b (.slice (some ⟨gl, 0, none⟩) n cap) (z :: ls) W) (hn : n = ls.length + 1) (hxb : w.heap.size ≤ xb) (u : Int) : LabAll w xb b (.slice (some ⟨gl, 0, none⟩) n cap) (u :: ls) (W.setCell ⟨gl, 0, none⟩ (.int .i64 u)) := by
  have hk := Lib.ownsRow_kind h.hl.1 gl rfl
  obtain ⟨c, fz, hk⟩ := hk
  have ho : ∀ {k : Nat} {cs : Array Value} {t : TypeId}, W.heap[k]? = some (Obj.cells cs t (0, 0)) → t ≠ 3 → (W.setCell ⟨gl, 0, none⟩ (.int .i64 u)).heap[k]? = some (Obj.cells cs t (0, 0)) := fun {k cs t} hkk hne => by
    rw [Below.heap_setCell _ _ _ _ (fun e => ?_)]
    · exact hkk
    · subst e
      rw [hkk] at hk
      simp at hk
      exact hne hk.2.1
  refine ⟨ho h.hx (by decide), ho h.h1 (by decide), ho h.h2 (by decide), ho h.hm (by decide), ?_, ?_⟩
  · have := OwnAt.put h.hl (by rw [List.length_map]; exact hn) (i := 0) (r := [.int .i64 z]) rfl (p := 0) (by decide) (.int .i64 u)
    exact this
  · exact h.hb.trans ((Below.refl _ _).setCell (p := ⟨gl, 0, none⟩) (Nat.le_trans hxb (h.hl.1.lt gl rfl).1) _)
/-- what a copy of it is like -/
theorem copyL_form {W : World} {B : Nat} {t f me g e d : Value} {ls : List Int} (h : OwnMod W B t f me g e d (modL ls)) : ∃ gf capf gc capc, f = .slice (some ⟨gf, 0, none⟩) 1 capf ∧ W.cell? ⟨gf, 2, none⟩ = some (.slice (some ⟨gc, 0, none⟩) 2 capc) ∧ gf < W.heap.size := by
  obtain ⟨rows, q1, q2, q3⟩ := h.funcs
  have q2' : rows.length = 1 := q2
  obtain ⟨r, hr⟩ : ∃ r, rows[0]? = some r := ⟨_, List.getElem?_eq_getElem (by omega)⟩
  obtain ⟨gf, capf, rfl, hB, hlt⟩ := q1.block hr
  obtain ⟨cv, rfl, rows2, e1, e2, _⟩ := q3 0 r _ hr rfl
  have e2' : rows2.length = 2 := e2
  obtain ⟨r2, hr2⟩ : ∃ r, rows2[0]? = some r := ⟨_, List.getElem?_eq_getElem (by omega)⟩
  obtain ⟨gc, capc, rfl, _, _⟩ := e1.block hr2
  have hc := q1.cell (by decide) hr (j := 2) rfl
  rw [q2'] 
  rw [e2'] at hc
  exact ⟨gf, capf, gc, capc, rfl, hc, hlt⟩
theorem copyL_nils {W : World} {B : Nat} {t f me g e d : Value} {ls : List Int} (h : OwnMod W B t f me g e d (modL ls)) : ∃ a1 p1 a2 p2 a3 p3 a4 p4 a5 p5, t = .slice a1 0 p1 ∧ me = .slice a2 0 p2 ∧ g = .slice a3 0 p3 ∧ e = .slice a4 0 p4 ∧ d = .slice a5 0 p5 := by
  obtain ⟨a1, p1, h1⟩ := own_form h.types.1
  obtain ⟨a2, p2, h2⟩ := own_form h.memory.1
  obtain ⟨a3, p3, h3⟩ := own_form h.globals.1
  obtain ⟨a4, p4, h4⟩ := own_form h.exports.1
  obtain ⟨a5, p5, h5⟩ := own_form h.data.1
  exact ⟨a1, p1, a2, p2, a3, p3, a4, p4, a5, p5, h1, h2, h3, h4, h5⟩
theorem same_call {W : World} {t1 f1 me1 g1 e1 d1 t2 f2 me2 g2 e2 d2 : Value} {st1 st2 : Int} {m1 m2 : ModP} {r : Bool} (h1 : ModAt W t1 f1 me1 g1 e1 st1 d1 m1) (h2 : ModAt W t2 f2 me2 g2 e2 st2 d2 m2) (hl1 : ∀ x ∈ m1.funcs, Labs x.code) (hl2 : ∀ x ∈ m2.funcs, Labs x.code) (hr : sameM m1 m2 = r) :
    Calls Tryz.prog 19 #[.agg #[t1, f1, me1, g1, e1, .int .i64 st1, d1], .agg #[t2, f2, me2, g2, e2, .int .i64 st2, d2]] W fun e w' => e = .returned (.bool r) ∧ Below W.heap.size W w' := by
  have h := sameM_any _ _ _ _ _ _ _ _ _ _ _ _ _ _ _ _ W h1 h2 hl1 hl2
  rw [hr] at h
  exact h
theorem modL_ne {ls ks : List Int} (h : ls ≠ ks) : sameM (modL ls) (modL ks) = false := sameM_ne (fun e => h (by
  have h1 := congrArg ModP.funcs e
  simp [modL] at h1
  exact h1))
/-- what the law's last test reads -/
abbrev HeldL (mb cb xb : Nat) (v2 : Value) (t f me g e d : Value) (lv : Value) (W0 W : World) : Prop :=
  (W.cell? ⟨mb, 0, none⟩ = some (.slice none 0 0) ∧ W.cell? ⟨mb, 1, none⟩ = some v2 ∧ W.cell? ⟨mb, 2, none⟩ = some (.slice none 0 0) ∧ W.cell? ⟨mb, 3, none⟩ = some (.slice none 0 0) ∧ W.cell? ⟨mb, 4, none⟩ = some (.slice none 0 0) ∧ W.cell? ⟨mb, 5, none⟩ = some (.int .i64 (-1)) ∧ W.cell? ⟨mb, 6, none⟩ = some (.slice none 0 0))
  ∧ (W.cell? ⟨cb, 0, none⟩ = some t ∧ W.cell? ⟨cb, 1, none⟩ = some f ∧ W.cell? ⟨cb, 2, none⟩ = some me ∧ W.cell? ⟨cb, 3, none⟩ = some g ∧ W.cell? ⟨cb, 4, none⟩ = some e ∧ W.cell? ⟨cb, 5, none⟩ = some (.int .i64 (-1)) ∧ W.cell? ⟨cb, 6, none⟩ = some d)
  ∧ W.cell? ⟨xb, 3, none⟩ = some lv ∧ Below W0.heap.size W0 W
theorem heldL_later {mb cb xb : Nat} {v2 t f me g e d lv : Value} {W0 W W' : World} (c : Below W.heap.size W W') (h : HeldL mb cb xb v2 t f me g e d lv W0 W) : HeldL mb cb xb v2 t f me g e d lv W0 W' :=
  ⟨⟨cell_later c h.1.1, cell_later c h.1.2.1, cell_later c h.1.2.2.1, cell_later c h.1.2.2.2.1, cell_later c h.1.2.2.2.2.1, cell_later c h.1.2.2.2.2.2.1, cell_later c h.1.2.2.2.2.2.2⟩,
   ⟨cell_later c h.2.1.1, cell_later c h.2.1.2.1, cell_later c h.2.1.2.2.1, cell_later c h.2.1.2.2.2.1, cell_later c h.2.1.2.2.2.2.1, cell_later c h.2.1.2.2.2.2.2.1, cell_later c h.2.1.2.2.2.2.2.2⟩, cell_later c h.2.2.1, h.2.2.2.trans (c.mono h.2.2.2.size)⟩
theorem heldL_drew {mb cb xb : Nat} {v2 t f me g e d lv : Value} {W0 W : World} (h : HeldL mb cb xb v2 t f me g e d lv W0 W) : HeldL mb cb xb v2 t f me g e d lv W0 W.drew := heldL_later (Below.refl _ _).drew h
end Go.Proofs.YthkdegmnnbepdaaGreatDoor.Mod
