/-
  Rows of a copy's own; what package module's Copy does first: the lists, each anew. No condition beyond what each theorem names.
-/
import Derived.Test.YthkdegmnnbepdaaGreatDoorModList
import Derived.Deep.RegionHeld3
import Derived.Deep.DeepCutAuto
namespace Go.Proofs.YthkdegmnnbepdaaGreatDoor.Mod
open Go.RowKit Go.Maps Go.Proofs.YthkdegmnnbepdaaGreatDoor.Op
set_option linter.unusedVariables false
theorem ownsRow_base {w : World} {B B' : Nat} {e : TypeId} {size : Nat} {v : Value} {n : Nat} {xs : List Value} (h : w.ownsRow B' e size v n xs) (hb : B ≤ B') : w.ownsRow B e size v n xs := by
  refine ⟨h.1, ?_⟩
  rcases h.2 with h1 | ⟨g, cap, cur, h1, h2, h3⟩
  · exact .inl h1
  · exact .inr ⟨g, cap, cur, h1, Nat.le_trans hb h2, h3⟩
theorem ownsRow_below {w w' : World} {B : Nat} {e : TypeId} {size : Nat} {v : Value} {n : Nat} {xs : List Value} (h : w.ownsRow B e size v n xs) (hb : Below w.heap.size w w') : w'.ownsRow B e size v n xs :=
  ownsRow_of h (fun k hk => hb.block k (h.lt k hk).2)
/-- a row of the call's own, of things -/
def OwnAt (w : World) (B : Nat) (e : TypeId) (size : Nat) (v : Value) (rows : List (List Value)) : Prop := w.ownsRow B e size v rows.length rows.flatten ∧ ∀ r ∈ rows, r.length = size
theorem OwnAt.later {w w' : World} {B : Nat} {e : TypeId} {size : Nat} {v : Value} {rows : List (List Value)} (h : OwnAt w B e size v rows) (hb : Below w.heap.size w w') : OwnAt w' B e size v rows := ⟨ownsRow_below h.1 hb, h.2⟩
theorem OwnAt.row {w : World} {B : Nat} {e : TypeId} {size : Nat} {v : Value} {rows : List (List Value)} (h : OwnAt w B e size v rows) (hs : 0 < size) (hl : rows.length ≤ 9223372036854775807) : RowAt w size v rows := by
  rcases h.1.2 with ⟨h1, h2⟩ | ⟨g, cap, cur, h1, _⟩
  · obtain rfl : rows = [] := List.eq_nil_of_length_eq_zero h2
    exact ⟨none, 0, h1, by simp, fun i r hr => by simp at hr⟩
  · refine ⟨some ⟨g, 0, none⟩, cap, h1, hl, fun i r hr => ⟨h.2 r (List.mem_of_getElem? hr), g, 0, rfl, ?_, fun j u hu => ?_⟩⟩
    · have := h.1
      rw [h1] at this
      exact (this.lt g rfl).2
    · have ho := h.1
      rw [h1] at ho
      have hi := (List.getElem?_eq_some_iff.1 hr).1
      have hj : j < size := by have := (List.getElem?_eq_some_iff.1 hu).1; rw [h.2 r (List.mem_of_getElem? hr)] at this; exact this
      have hij : i * size + j < rows.length * size := by
        have : (i + 1) * size ≤ rows.length * size := Nat.mul_le_mul_right _ hi
        rw [Nat.add_mul] at this
        omega
      rw [Nat.zero_add, ho.cellAt _ hij, flat_at hs rows _ h.2]
      rw [show (i * size + j) / size = i by rw [Nat.mul_comm, Nat.mul_add_div hs, Nat.div_eq_of_lt hj]; omega, show (i * size + j) % size = j by rw [Nat.mul_comm, Nat.mul_add_mod, Nat.mod_eq_of_lt hj]]
      rw [hr]
      exact hu
/-- what a slice that came in hands to list -/
theorem listOf {w : World} {size : Nat} {v : Value} {α : Type} {R : World → List Value → α → Prop} {l : List α} (h : ListAt size R w v l) : ∃ la c rows, v = .slice la rows.length c ∧ RowAt w size (.slice la rows.length c) rows ∧ rows.length = l.length ∧ (∀ (i : Nat) r x, rows[i]? = some r → l[i]? = some x → R w r x) ∧ ∀ r ∈ rows, r.length = size := by
  obtain ⟨rows, hr, hl, hx⟩ := h
  have hr0 := hr
  obtain ⟨la, c, rfl, _, hr⟩ := hr
  exact ⟨la, c, rows, rfl, hr0, hl, hx, fun r hm => by obtain ⟨i, hi⟩ := List.getElem?_of_mem hm; exact (hr i r hi).1⟩
theorem cells_map {α : Type} {R : World → List Value → α → Prop} {w : World} (c : α → List Value) (hR : ∀ r x, R w r x → r = c x) {rows : List (List Value)} {l : List α} (hl : rows.length = l.length) (hx : ∀ (i : Nat) r x, rows[i]? = some r → l[i]? = some x → R w r x) : rows = l.map c := by
  refine List.ext_getElem? (fun i => ?_)
  rw [List.getElem?_map]
  by_cases hi : i < l.length
  · rw [List.getElem?_eq_getElem hi, List.getElem?_eq_getElem (by omega)]
    exact congrArg some (hR _ _ (hx i _ _ (List.getElem?_eq_getElem (by omega)) (List.getElem?_eq_getElem hi)))
  · rw [List.getElem?_eq_none (by omega), List.getElem?_eq_none (by omega)]
    rfl
theorem own_form {w : World} {B : Nat} {e : TypeId} {size : Nat} {v : Value} {n : Nat} {xs : List Value} (h : w.ownsRow B e size v n xs) : ∃ a c, v = .slice a n c := by
  rcases h.2 with ⟨h1, h2⟩ | ⟨g, cap, cur, h1, _⟩
  · exact ⟨none, 0, by rw [h1, h2]⟩
  · exact ⟨_, cap, h1⟩
/-- what list leaves, of rows -/
def Listed (f : FuncId) (e : TypeId) (size : Nat) (B : Nat) (W0 : World) (v : Value) (rows : List (List Value)) : Prop :=
  ∀ W, Below W0.heap.size W0 W → B ≤ W.heap.size → Calls Tryz.prog f #[v] W fun en w' => (∃ a c, en = .returned (.slice a rows.length c) ∧ OwnAt w' W.heap.size e size (.slice a rows.length c) rows) ∧ Below W.heap.size W w'
theorem listed_ft {B : Nat} {w : World} {v : Value} {l : List FT} (h : TypesAt w v l) (hroom : l.length ≤ 1000000000) : Listed 63 68 2 B w v (l.map FT.cells) := by
  intro W hW hB
  obtain ⟨la, c, rows, rfl, hrow, hlen, hx, hsz⟩ := listOf (h.later lasts_ft hW)
  have e := cells_map FT.cells (fun r x hr => hr.1) hlen hx
  subst e
  refine (list_ft la c _ W hrow (fun u hu => ?_) (by rw [List.length_map]; omega)).mono ?_
  · obtain ⟨r, hr, hu⟩ := List.mem_flatten.1 hu
    obtain ⟨x, _, rfl⟩ := List.mem_map.1 hr
    simp [FT.cells] at hu
    rcases hu with rfl | rfl <;> rfl
  · rintro e w' ⟨⟨v', rfl, ho⟩, hb⟩
    obtain ⟨a', c', rfl⟩ := own_form ho
    exact ⟨⟨a', c', rfl, ho, hsz⟩, hb⟩
theorem listed_mem {B : Nat} {w : World} {v : Value} {l : List MemP} (h : MemsAt w v l) (hroom : l.length ≤ 1000000000) : Listed 65 62 2 B w v (l.map MemP.cells) := by
  intro W hW hB
  obtain ⟨la, c, rows, rfl, hrow, hlen, hx, hsz⟩ := listOf (h.later lasts_mem hW)
  have e := cells_map MemP.cells (fun r x hr => hr) hlen hx
  subst e
  refine (list_mem la c _ W hrow (fun u hu => ?_) (by rw [List.length_map]; omega)).mono ?_
  · obtain ⟨r, hr, hu⟩ := List.mem_flatten.1 hu
    obtain ⟨x, _, rfl⟩ := List.mem_map.1 hr
    simp [MemP.cells] at hu
    rcases hu with rfl | rfl <;> rfl
  · rintro e w' ⟨⟨v', rfl, ho⟩, hb⟩
    obtain ⟨a', c', rfl⟩ := own_form ho
    exact ⟨⟨a', c', rfl, ho, hsz⟩, hb⟩
theorem listed_glob {B : Nat} {w : World} {v : Value} {l : List GlobP} (h : GlobsAt w v l) (hroom : l.length ≤ 1000000000) : Listed 66 60 3 B w v (l.map GlobP.cells) := by
  intro W hW hB
  obtain ⟨la, c, rows, rfl, hrow, hlen, hx, hsz⟩ := listOf (h.later lasts_glob hW)
  have e := cells_map GlobP.cells (fun r x hr => hr) hlen hx
  subst e
  refine (list_glob la c _ W hrow (fun u hu => ?_) (by rw [List.length_map]; omega)).mono ?_
  · obtain ⟨r, hr, hu⟩ := List.mem_flatten.1 hu
    obtain ⟨x, _, rfl⟩ := List.mem_map.1 hr
    simp [GlobP.cells] at hu
    rcases hu with rfl | rfl | rfl <;> rfl
  · rintro e w' ⟨⟨v', rfl, ho⟩, hb⟩
    obtain ⟨a', c', rfl⟩ := own_form ho
    exact ⟨⟨a', c', rfl, ho, hsz⟩, hb⟩
theorem listed_exp {B : Nat} {w : World} {v : Value} {l : List ExpP} (h : ExpsAt w v l) (hroom : l.length ≤ 1000000000) : Listed 67 58 3 B w v (l.map ExpP.cells) := by
  intro W hW hB
  obtain ⟨la, c, rows, rfl, hrow, hlen, hx, hsz⟩ := listOf (h.later lasts_exp hW)
  have e := cells_map ExpP.cells (fun r x hr => hr.1) hlen hx
  subst e
  refine (list_exp la c _ W hrow (fun u hu => ?_) (by rw [List.length_map]; omega)).mono ?_
  · obtain ⟨r, hr, hu⟩ := List.mem_flatten.1 hu
    obtain ⟨x, _, rfl⟩ := List.mem_map.1 hr
    simp [ExpP.cells] at hu
    rcases hu with rfl | rfl | rfl <;> rfl
  · rintro e w' ⟨⟨v', rfl, ho⟩, hb⟩
    obtain ⟨a', c', rfl⟩ := own_form ho
    exact ⟨⟨a', c', rfl, ho, hsz⟩, hb⟩
theorem listed_data {B : Nat} {w : World} {v : Value} {l : List DataP} (h : DatasAt w v l) (hroom : l.length ≤ 1000000000) : Listed 68 49 2 B w v (l.map DataP.cells) := by
  intro W hW hB
  obtain ⟨la, c, rows, rfl, hrow, hlen, hx, hsz⟩ := listOf (h.later lasts_data hW)
  have e := cells_map DataP.cells (fun r x hr => hr.1) hlen hx
  subst e
  refine (list_data la c _ W hrow (fun u hu => ?_) (by rw [List.length_map]; omega)).mono ?_
  · obtain ⟨r, hr, hu⟩ := List.mem_flatten.1 hu
    obtain ⟨x, _, rfl⟩ := List.mem_map.1 hr
    simp [DataP.cells] at hu
    rcases hu with rfl | rfl <;> rfl
  · rintro e w' ⟨⟨v', rfl, ho⟩, hb⟩
    obtain ⟨a', c', rfl⟩ := own_form ho
    exact ⟨⟨a', c', rfl, ho, hsz⟩, hb⟩
end Go.Proofs.YthkdegmnnbepdaaGreatDoor.Mod
