/-
  How a copied module lies: own rows all, from one base. Plain but for the shape of memory.
-/
import Derived.Test.YthkdegmnnbepdaaGreatDoorModCopyY
namespace Go.Proofs.YthkdegmnnbepdaaGreatDoor.Mod
open Go.RowKit Go.Maps Go.Proofs.YthkdegmnnbepdaaGreatDoor.Op
set_option linter.unusedVariables false
def FuncsOwn (w : World) (B : Nat) (v : Value) (fs : List FuncP) : Prop := ∃ rows, OwnAt w B 33 3 v rows ∧ rows.length = fs.length ∧ ∀ (i : Nat) r x, rows[i]? = some r → fs[i]? = some x → FuncOwn w B r x
structure CopyAt (w : World) (B : Nat) (t f me g e d : Value) (rt rm rg re rd : List (List Value)) (fs : List FuncP) : Prop where
  types : OwnAt w B 68 2 t rt
  funcs : FuncsOwn w B f fs
  memory : OwnAt w B 62 2 me rm
  globals : OwnAt w B 60 3 g rg
  exports : OwnAt w B 58 3 e re
  data : OwnAt w B 49 2 d rd
theorem OwnAt.base {w : World} {B B' : Nat} {e : TypeId} {size : Nat} {v : Value} {rows : List (List Value)} (h : OwnAt w B e size v rows) (hb : B' ≤ B) : OwnAt w B' e size v rows := ⟨ownsRow_base h.1 hb, h.2⟩
theorem FuncOwn.base {w : World} {B B' : Nat} {r : List Value} {x : FuncP} (h : FuncOwn w B r x) (hb : B' ≤ B) : FuncOwn w B' r x := by
  obtain ⟨cv, h1, rows, h2, h3, h4⟩ := h
  refine ⟨cv, h1, rows, h2.base hb, h3, fun i r x hr hx => ?_⟩
  obtain ⟨lv, e1, e2, e3⟩ := h4 i r x hr hx
  exact ⟨lv, e1, OwnAt.base e2 hb, e3⟩
theorem FuncsOwn.base {w : World} {B B' : Nat} {v : Value} {fs : List FuncP} (h : FuncsOwn w B v fs) (hb : B' ≤ B) : FuncsOwn w B' v fs := by
  obtain ⟨rows, h1, h2, h3⟩ := h
  exact ⟨rows, h1.base hb, h2, fun i r x hr hx => (h3 i r x hr hx).base hb⟩
theorem CopyAt.base {w : World} {B B' : Nat} {t f me g e d : Value} {rt rm rg re rd : List (List Value)} {fs : List FuncP} (h : CopyAt w B t f me g e d rt rm rg re rd fs) (hb : B' ≤ B) : CopyAt w B' t f me g e d rt rm rg re rd fs :=
  ⟨h.types.base hb, h.funcs.base hb, h.memory.base hb, h.globals.base hb, h.exports.base hb, h.data.base hb⟩
/-- a block of some kind -/
def KindAt (w : World) (j : Nat) (t : TypeId) : Prop := ∃ cs f, w.heap[j]? = some (.cells cs t f)
theorem OwnAt.keepK {w w' : World} {B : Nat} {e : TypeId} {size : Nat} {v : Value} {rows : List (List Value)} (h : OwnAt w B e size v rows) {j : Nat} {t : TypeId} (k : Keeps (fun i => i = j) w w') (hj : KindAt w j t) (hne : e ≠ t) : OwnAt w' B e size v rows := by
  obtain ⟨cs, f, hk⟩ := hj
  exact h.keeps k (fun i hi => .inr ⟨cs, t, f, by obtain rfl : i = j := hi; exact hk, hne⟩)
theorem FuncsOwn.keepK {w w' : World} {B : Nat} {v : Value} {fs : List FuncP} (h : FuncsOwn w B v fs) {j : Nat} {t : TypeId} (k : Keeps (fun i => i = j) w w') (hj : KindAt w j t) (h1 : 33 ≠ t) (h2 : 40 ≠ t) (h3 : 3 ≠ t) : FuncsOwn w' B v fs := by
  obtain ⟨rows, q1, q2, q3⟩ := h
  refine ⟨rows, q1.keepK k hj h1, q2, fun i r x hr hx => ?_⟩
  obtain ⟨cs, f, hk⟩ := hj
  exact (q3 i r x hr hx).keeps k (fun i hi => .inr ⟨cs, t, f, by obtain rfl : i = j := hi; exact hk, h3, h2⟩)
theorem CopyAt.keepK {w w' : World} {B : Nat} {t f me g e d : Value} {rt rm rg re rd : List (List Value)} {fs : List FuncP} (h : CopyAt w B t f me g e d rt rm rg re rd fs) {j : Nat} (k : Keeps (fun i => i = j) w w') (hj : KindAt w j 29) : CopyAt w' B t f me g e d rt rm rg re rd fs :=
  ⟨h.types.keepK k hj (by decide), h.funcs.keepK k hj (by decide) (by decide) (by decide), h.memory.keepK k hj (by decide), h.globals.keepK k hj (by decide), h.exports.keepK k hj (by decide), h.data.keepK k hj (by decide)⟩
theorem keeps_foot {w w' : World} {B : Nat} {e0 e : TypeId} {size size0 : Nat} {v v0 : Value} {rows rows0 : List (List Value)} (h : OwnAt w B e size v rows) (h0 : OwnAt w B e0 size0 v0 rows0) (k : Keeps (fun j => v0.ownBlock = some j) w w') (hne : e ≠ e0) : OwnAt w' B e size v rows :=
  h.keeps k (fun i hi => .inr (by
    obtain ⟨c, fz, hk⟩ := Lib.ownsRow_kind h0.1 i hi
    exact ⟨c, e0, fz, hk, hne⟩))
theorem copy_outer {b : Nat} {t f me g e : Value} {st : Int} {d : Value} {W0 wc wo : World} {ob : Nat} {vt vf vm vg ve vd : Value} {rt rf rm rg re rd : List (List Value)} {fs : List FuncP}
    (h : HeadAt b t f me g e st d W0 ob vt vf vm vg ve vd rt rf rm rg re rd wc) (o : OutAt wc W0.heap.size vf rf fs rf.length wo) (hl : rf.length = fs.length) :
    CopyAt wo W0.heap.size vt vf vm vg ve vd rt rm rg re rd fs ∧ Below W0.heap.size W0 wo ∧ wo.heap[ob]? = some (.cells #[vt, vf, vm, vg, ve, .int .i64 st, vd] 29 (0, 0)) := by
  obtain ⟨hH, hob, hbox, oa, owf, oc, od, oe, of⟩ := h
  obtain ⟨rows, r1, r2, r3, r4, r5⟩ := o
  refine ⟨⟨keeps_foot oa owf r5 (by decide), ⟨rows, r2, by omega, fun i r x hr hx => r4 i r x (by have := (List.getElem?_eq_some_iff.1 hr).1; omega) hr hx⟩, keeps_foot oc owf r5 (by decide), keeps_foot od owf r5 (by decide), keeps_foot oe owf r5 (by decide), keeps_foot of owf r5 (by decide)⟩, ?_, ?_⟩
  · refine hH.2.2.2.2.2.2.2.trans ((r5.below (B := W0.heap.size) (fun j hj => (owf.1.lt j hj).1) hH.2.2.2.2.2.2.2.size))
  · exact (r5.block ob (Array.getElem?_eq_some_iff.1 hbox).1 (fun hj => kind_ne owf.1 hbox (by decide) hj)).trans hbox
theorem box_cells {W : World} {b : Nat} {u0 u1 u2 u3 u4 u5 u6 : Value} (z : W.heap[b]? = some (.cells #[u0, u1, u2, u3, u4, u5, u6] 29 (0, 0))) : W.cell? ⟨b, 0, none⟩ = some u0 ∧ W.cell? ⟨b, 1, none⟩ = some u1 ∧ W.cell? ⟨b, 2, none⟩ = some u2 ∧ W.cell? ⟨b, 3, none⟩ = some u3 ∧ W.cell? ⟨b, 4, none⟩ = some u4 ∧ W.cell? ⟨b, 5, none⟩ = some u5 ∧ W.cell? ⟨b, 6, none⟩ = some u6 :=
  ⟨cell_of_row _ _ _ _ _ _ z, cell_of_row _ _ _ _ _ _ z, cell_of_row _ _ _ _ _ _ z, cell_of_row _ _ _ _ _ _ z, cell_of_row _ _ _ _ _ _ z, cell_of_row _ _ _ _ _ _ z, cell_of_row _ _ _ _ _ _ z⟩
/-- what Copy leaves -/
def CopyDone (w : World) (st : Int) (rt rm rg re rd : List (List Value)) (fs : List FuncP) (en : Ending) (w' : World) : Prop :=
  ∃ t f me g e d, en = .returned (modV t f me g e st d) ∧ CopyAt w' w.heap.size t f me g e d rt rm rg re rd fs ∧ Below w.heap.size w w'
theorem copy_done {w W0 wo W7 : World} {st : Int} {vt vf vm vg ve vd : Value} {rt rm rg re rd : List (List Value)} {fs : List FuncP} (hc : CopyAt wo W0.heap.size vt vf vm vg ve vd rt rm rg re rd fs) (h0 : Below w.heap.size w W0) (hb : Below W0.heap.size W0 wo) (hz : ZeroAt wo (w.heap.size + 1))
    (h7 : (((((((wo.setCell ⟨w.heap.size + 1, 0, none⟩ vt).setCell ⟨w.heap.size + 1, 1, none⟩ vf).setCell ⟨w.heap.size + 1, 2, none⟩ vm).setCell ⟨w.heap.size + 1, 3, none⟩ vg).setCell ⟨w.heap.size + 1, 4, none⟩ ve).setCell ⟨w.heap.size + 1, 5, none⟩ (.int .i64 st)).setCell ⟨w.heap.size + 1, 6, none⟩ vd) = W7) :
    CopyDone w st rt rm rg re rd fs (.returned (modV vt vf vm vg ve st vd)) W7 := by
  obtain ⟨q1, q2, q3⟩ := seven_setC hz _ _ _ _ _ _ _ _ h7
  refine ⟨vt, vf, vm, vg, ve, vd, rfl, (hc.keepK q3 ⟨_, _, hz⟩).base h0.size, ?_⟩
  refine (h0.trans (hb.mono h0.size)).trans (q3.below (fun j hj => by have : j = _ := hj; omega) ?_)
  exact Nat.le_trans h0.size hb.size
end Go.Proofs.YthkdegmnnbepdaaGreatDoor.Mod
