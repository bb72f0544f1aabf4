/-
  Copy of any module that has room, and what a copy reads as. No condition but that the module's lists have room.
-/
import Derived.Test.YthkdegmnnbepdaaGreatDoorModCopyB
namespace Go.Proofs.YthkdegmnnbepdaaGreatDoor.Mod
open Go.RowKit Go.Maps Go.Proofs.YthkdegmnnbepdaaGreatDoor.Op
set_option linter.unusedVariables false
/-- a module's lists have room -/
structure ModRoom (m : ModP) : Prop where
  types : m.types.length ≤ 1000000000 ∧ ∀ x ∈ m.types, x.params.size ≤ 9223372036854775807 ∧ x.results.size ≤ 9223372036854775807
  funcs : m.funcs.length ≤ 1000000000 ∧ ∀ x ∈ m.funcs, x.locals.size ≤ 9223372036854775807 ∧ x.code.length * 48 ≤ 140737488355328 ∧ ∀ y ∈ x.code, y.labels.length ≤ 1000000000
  memory : m.memory.length ≤ 1000000000
  globals : m.globals.length ≤ 1000000000
  exports : m.exports.length ≤ 1000000000 ∧ ∀ x ∈ m.exports, x.name.size ≤ 9223372036854775807
  data : m.data.length ≤ 1000000000 ∧ ∀ x ∈ m.data, x.bytes.size ≤ 9223372036854775807
theorem ModRoom.labs {m : ModP} (h : ModRoom m) : ∀ x ∈ m.funcs, Labs x.code := fun x hx y hy => by have := (h.funcs.2 x hx).2.2 y hy; omega
def CopyOf (w : World) (m : ModP) : Ending → World → Prop := CopyDone w m.start (m.types.map FT.cells) (m.memory.map MemP.cells) (m.globals.map GlobP.cells) (m.exports.map ExpP.cells) (m.data.map DataP.cells) m.funcs
/-- how a module's copy lies -/
def OwnMod (w : World) (B : Nat) (t f me g e d : Value) (m : ModP) : Prop := CopyAt w B t f me g e d (m.types.map FT.cells) (m.memory.map MemP.cells) (m.globals.map GlobP.cells) (m.exports.map ExpP.cells) (m.data.map DataP.cells) m.funcs
theorem listed_func {B : Nat} {w : World} {v : Value} {l : List FuncP} (h : FuncsAt w v l) (hroom : l.length ≤ 1000000000) : ∃ rf, rf.length = l.length ∧ Listed 64 33 3 B w v rf ∧ ∀ (i : Nat) r x, rf[i]? = some r → l[i]? = some x → isFunc w r x := by
  obtain ⟨la, c, rows, rfl, hrow, hlen, hx, hsz⟩ := listOf h
  refine ⟨rows, hlen, fun W hW hB => ?_, hx⟩
  refine (list_func la c rows W (hrow.later hW) (fun u hu => ?_) (by omega)).mono ?_
  · obtain ⟨r, hr, hu⟩ := List.mem_flatten.1 hu
    obtain ⟨i, hi⟩ := List.getElem?_of_mem hr
    have hlt := (List.getElem?_eq_some_iff.1 hi).1
    obtain ⟨cv, rfl, hc, _⟩ := hx i r _ hi (List.getElem?_eq_getElem (by omega))
    obtain ⟨a, c', hcv, _⟩ := ListAt.form hc
    subst hcv
    simp at hu
    rcases hu with rfl | rfl | rfl <;> rfl
  · rintro e w' ⟨⟨v', rfl, ho⟩, hb⟩
    obtain ⟨a', c', rfl⟩ := own_form ho
    exact ⟨⟨a', c', rfl, ho, hsz⟩, hb⟩
theorem copy_mod {t f me g e d : Value} {st : Int} {w : World} {m : ModP} (h : ModAt w t f me g e st d m) (hr : ModRoom m) : Calls Tryz.prog 22 #[modV t f me g e st d] w (CopyOf w m) := by
  obtain ⟨rf, h1, h2, h3⟩ := listed_func (B := w.heap.size) h.funcs hr.funcs.1
  have hs := h.start
  subst hs
  exact copy_any t f me g e m.start d w _ rf _ _ _ _ (listed_ft h.types hr.types.1) h2 (listed_mem h.memory hr.memory) (listed_glob h.globals hr.globals) (listed_exp h.exports hr.exports.1) (listed_data h.data hr.data.1) m.funcs h1 h3 (by rw [h1]; exact hr.funcs.1) (fun x hx y hy => (hr.funcs.2 x hx).2.2 y hy)
theorem own_list {α : Type} {w : World} {B : Nat} {e : TypeId} {size : Nat} {v : Value} {l : List α} {c : α → List Value} {R : World → List Value → α → Prop} (h : OwnAt w B e size v (l.map c)) (hs : 0 < size) (hl : l.length ≤ 1000000000) (hR : ∀ x ∈ l, R w (c x) x) : ListAt size R w v l := by
  refine ⟨l.map c, h.row hs (by rw [List.length_map]; omega), by rw [List.length_map], fun i r x hr hx => ?_⟩
  rw [List.getElem?_map, hx] at hr
  obtain rfl := Option.some.inj hr
  exact hR x (List.mem_of_getElem? hx)
theorem OwnMod.mod {w : World} {B : Nat} {t f me g e d : Value} {m : ModP} (h : OwnMod w B t f me g e d m) (hr : ModRoom m) : ModAt w t f me g e m.start d m := by
  refine ⟨own_list h.types (by omega) hr.types.1 (fun x hx => ⟨rfl, hr.types.2 x hx⟩), ?_, own_list h.memory (by omega) hr.memory (fun x hx => rfl), own_list h.globals (by omega) hr.globals (fun x hx => rfl), own_list h.exports (by omega) hr.exports.1 (fun x hx => ⟨rfl, hr.exports.2 x hx⟩), rfl, own_list h.data (by omega) hr.data.1 (fun x hx => ⟨rfl, hr.data.2 x hx⟩)⟩
  obtain ⟨rows, q1, q2, q3⟩ := h.funcs
  refine ⟨rows, q1.row (by omega) (by have := hr.funcs.1; omega), q2, fun i r x hri hx => ?_⟩
  obtain ⟨cv, h1, h2⟩ := q3 i r x hri hx
  have h3 := hr.funcs.2 x (List.mem_of_getElem? hx)
  exact ⟨cv, h1, h2.at (by omega), h3.1, h3.2.1⟩
theorem OwnMod.later {w w' : World} {B : Nat} {t f me g e d : Value} {m : ModP} (h : OwnMod w B t f me g e d m) (hb : Below w.heap.size w w') : OwnMod w' B t f me g e d m := by
  refine ⟨h.types.later hb, ?_, h.memory.later hb, h.globals.later hb, h.exports.later hb, h.data.later hb⟩
  obtain ⟨rows, q1, q2, q3⟩ := h.funcs
  exact ⟨rows, q1.later hb, q2, fun i r x hri hx => (q3 i r x hri hx).keeps (Keeps.of_below (F := fun _ => False) hb) (fun j hj => hj.elim)⟩
/-- what lies from a base on is as it was if only blocks below it have turned -/
theorem OwnAt.above {w w' : World} {B : Nat} {e : TypeId} {size : Nat} {v : Value} {rows : List (List Value)} (h : OwnAt w B e size v rows) {F : Nat → Prop} (k : Keeps F w w') (hF : ∀ j, F j → j < B) : OwnAt w' B e size v rows :=
  ⟨ownsRow_of h.1 (fun j hj => k.block j (h.1.lt j hj).2 (fun hf => by have h1 := hF j hf; have h2 := (h.1.lt j hj).1; omega)), h.2⟩
theorem CodeOwn.above {w w' : World} {B : Nat} {v : Value} {code : List InsL} (h : CodeOwn w B v code) {F : Nat → Prop} (k : Keeps F w w') (hF : ∀ j, F j → j < B) : CodeOwn w' B v code := by
  obtain ⟨rows, h1, h2, h3⟩ := h
  refine ⟨rows, h1.above k hF, h2, fun i r x hr hx => ?_⟩
  obtain ⟨lv, e1, e2, e3⟩ := h3 i r x hr hx
  exact ⟨lv, e1, OwnAt.above e2 k hF, e3⟩
theorem OwnMod.above {w w' : World} {B : Nat} {t f me g e d : Value} {m : ModP} (h : OwnMod w B t f me g e d m) {F : Nat → Prop} (k : Keeps F w w') (hF : ∀ j, F j → j < B) : OwnMod w' B t f me g e d m := by
  refine ⟨h.types.above k hF, ?_, h.memory.above k hF, h.globals.above k hF, h.exports.above k hF, h.data.above k hF⟩
  obtain ⟨rows, q1, q2, q3⟩ := h.funcs
  refine ⟨rows, q1.above k hF, q2, fun i r x hri hx => ?_⟩
  obtain ⟨cv, e1, e2⟩ := q3 i r x hri hx
  exact ⟨cv, e1, e2.above k hF⟩
end Go.Proofs.YthkdegmnnbepdaaGreatDoor.Mod
