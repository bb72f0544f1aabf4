/-
  Cells of rows of one's own; list of code, list of labels, as contracts.
-/
import Derived.Test.YthkdegmnnbepdaaGreatDoorModCopyX
namespace Go.Proofs.YthkdegmnnbepdaaGreatDoor.Mod
open Go.RowKit Go.Maps Go.Proofs.YthkdegmnnbepdaaGreatDoor.Op
set_option linter.unusedVariables false
theorem OwnAt.cell {w : World} {B : Nat} {e : TypeId} {size : Nat} {g n cap : Nat} {rows : List (List Value)} (h : OwnAt w B e size (.slice (some ⟨g, 0, none⟩) n cap) rows) (hs : 0 < size) {i j : Nat} {r : List Value} {u : Value} (hr : rows[i]? = some r) (hu : r[j]? = some u) : w.cell? ⟨g, i * size + j, none⟩ = some u := by
  have hi := (List.getElem?_eq_some_iff.1 hr).1
  have hj : j < size := by have := (List.getElem?_eq_some_iff.1 hu).1; rw [h.2 r (List.mem_of_getElem? hr)] at this; exact this
  have hij : i * size + j < rows.length * size := by
    have : (i + 1) * size ≤ rows.length * size := Nat.mul_le_mul_right _ hi
    rw [Nat.add_mul] at this
    omega
  rcases h.1.2 with ⟨h1, _⟩ | ⟨g', cap', cur, h1, _⟩
  · simp at h1
  · have ho := h.1
    obtain rfl : n = rows.length := by simp only [Value.slice.injEq] at h1; omega
    rw [ho.cellAt _ hij, flat_at hs rows _ h.2]
    rw [show (i * size + j) / size = i by rw [Nat.mul_comm, Nat.mul_add_div hs, Nat.div_eq_of_lt hj]; omega, show (i * size + j) % size = j by rw [Nat.mul_comm, Nat.mul_add_mod, Nat.mod_eq_of_lt hj]]
    rw [hr]
    exact hu
theorem OwnAt.soft {w : World} {B : Nat} {e : TypeId} {size : Nat} {g n cap : Nat} {rows : List (List Value)} (h : OwnAt w B e size (.slice (some ⟨g, 0, none⟩) n cap) rows) (j : Nat) : w.frozen? ⟨g, j, none⟩ = false := by
  rcases h.1.2 with ⟨h1, _⟩ | ⟨g', cap', cur, h1, _, hg, _⟩
  · simp at h1
  · simp only [Value.slice.injEq, Option.some.injEq, Addr.mk.injEq] at h1
    obtain ⟨⟨rfl, _⟩, _⟩ := h1
    exact frozen_of_row _ _ _ _ _ hg
theorem ins_calls {w : World} {cv : Value} {code : List InsL} (h : CodeAt w cv code) (hl : code.length * 48 ≤ 140737488355328) : ∃ la c irows, cv = .slice la irows.length c ∧ irows.length = code.length ∧ (∀ (i : Nat) r x, irows[i]? = some r → code[i]? = some x → isIns w r x) ∧
    Calls Tryz.prog 69 #[cv] w fun en w' => (∃ a c', en = .returned (.slice a irows.length c') ∧ OwnAt w' w.heap.size 40 4 (.slice a irows.length c') irows) ∧ Below w.heap.size w w' := by
  obtain ⟨la, c, irows, rfl, hrow, hlen, hx, hsz⟩ := listOf h
  refine ⟨la, c, irows, rfl, hlen, hx, ?_⟩
  refine (list_ins la c irows w hrow (fun u hu => ?_) (by omega)).mono ?_
  · obtain ⟨r, hr, hu⟩ := List.mem_flatten.1 hu
    obtain ⟨i, hi⟩ := List.getElem?_of_mem hr
    have hlt := (List.getElem?_eq_some_iff.1 hi).1
    obtain ⟨lv, rfl, hl, _⟩ := hx i r _ hi (List.getElem?_eq_getElem (by omega))
    obtain ⟨a, c', rfl⟩ := intsAt_form hl
    simp at hu
    rcases hu with rfl | rfl | rfl | rfl <;> rfl
  · rintro e w' ⟨⟨v', rfl, ho⟩, hb⟩
    obtain ⟨a', c', rfl⟩ := own_form ho
    exact ⟨⟨a', c', rfl, ho, hsz⟩, hb⟩
theorem int_calls {w : World} {lv : Value} {zs : List Int} (h : IntsAt w lv zs) (hl : zs.length ≤ 1000000000) :
    Calls Tryz.prog 70 #[lv] w fun en w' => (∃ a c', en = .returned (.slice a zs.length c') ∧ LabOwn w' w.heap.size (.slice a zs.length c') zs) ∧ Below w.heap.size w w' := by
  obtain ⟨la, c, rfl⟩ := intsAt_form h
  have hrow := rowAt_ints h (by omega)
  have hm : zs.length = (zs.map fun z => [Value.int .i64 z]).length := by rw [List.length_map]
  rw [hm] at hrow ⊢
  refine (list_int la c _ w hrow (fun u hu => ?_) (by rw [List.length_map]; omega)).mono ?_
  · obtain ⟨r, hr, hu⟩ := List.mem_flatten.1 hu
    obtain ⟨z, _, rfl⟩ := List.mem_map.1 hr
    simp at hu
    rw [hu]
    rfl
  · rintro e w' ⟨⟨v', rfl, ho⟩, hb⟩
    obtain ⟨a', c', rfl⟩ := own_form ho
    refine ⟨⟨a', c', rfl, ho, fun r hr => ?_⟩, hb⟩
    obtain ⟨z, _, rfl⟩ := List.mem_map.1 hr
    rfl
theorem ins_calls2 {w0 w : World} {cv : Value} {code : List InsL} (h : CodeAt w0 cv code) (hw : Below w0.heap.size w0 w) (hl : code.length * 48 ≤ 140737488355328) : ∃ la c irows, cv = .slice la irows.length c ∧ irows.length = code.length ∧ (∀ (i : Nat) r x, irows[i]? = some r → code[i]? = some x → isIns w0 r x) ∧
    Calls Tryz.prog 69 #[cv] w fun en w' => (∃ a c', en = .returned (.slice a irows.length c') ∧ OwnAt w' w.heap.size 40 4 (.slice a irows.length c') irows) ∧ Below w.heap.size w w' := by
  obtain ⟨la, c, irows, rfl, hrow, hlen, hx, hsz⟩ := listOf h
  refine ⟨la, c, irows, rfl, hlen, hx, ?_⟩
  refine (list_ins la c irows w (hrow.later hw) (fun u hu => ?_) (by omega)).mono ?_
  · obtain ⟨r, hr, hu⟩ := List.mem_flatten.1 hu
    obtain ⟨i, hi⟩ := List.getElem?_of_mem hr
    have hlt := (List.getElem?_eq_some_iff.1 hi).1
    obtain ⟨lv, rfl, hl, _⟩ := hx i r _ hi (List.getElem?_eq_getElem (by omega))
    obtain ⟨a, c', rfl⟩ := intsAt_form hl
    simp at hu
    rcases hu with rfl | rfl | rfl | rfl <;> rfl
  · rintro e w' ⟨⟨v', rfl, ho⟩, hb⟩
    obtain ⟨a', c', rfl⟩ := own_form ho
    exact ⟨⟨a', c', rfl, ho, hsz⟩, hb⟩
theorem int_calls2 {w0 w : World} {lv : Value} {zs : List Int} (h : IntsAt w0 lv zs) (hw : Below w0.heap.size w0 w) (hl : zs.length ≤ 1000000000) :
    ∀ W, Below w.heap.size w W → Calls Tryz.prog 70 #[lv] W fun en w' => (∃ a c', en = .returned (.slice a zs.length c') ∧ LabOwn w' w.heap.size (.slice a zs.length c') zs) ∧ Below w.heap.size w w' := by
  intro W hW
  refine (int_calls (intsAt_later (intsAt_later h hw) hW) hl).mono ?_
  rintro e w' ⟨⟨a, c', rfl, ho⟩, hb⟩
  exact ⟨⟨a, c', rfl, ownsRow_base ho.1 hW.size, ho.2⟩, hW.trans (hb.mono hW.size)⟩
end Go.Proofs.YthkdegmnnbepdaaGreatDoor.Mod
