/-
  The reference's rows of chapter 3 and the program's table say the same; a search through them. Plain: no program in sight.
-/
import Derived.Test.YtlbgbpgjccbbjaaDoorOpRefC
import Derived.Test.YtlbgbpgjccbbjaaDoorOpCode
namespace Go.Proofs.YtlbgbpgjccbbjaaDoor.Op
open Go.RowKit Go.Maps
set_option linter.unusedVariables false
def ins (e : Int × Info) : List (Int × Info) → List (Int × Info)
  | [] => [e]
  | x :: l => if e.1 ≤ x.1 then e :: x :: l else x :: ins e l
theorem ins_perm (e : Int × Info) : ∀ l, (ins e l).Perm (e :: l)
  | [] => .refl _
  | x :: l => by
    unfold ins
    split
    · exact .refl _
    · exact ((ins_perm e l).cons x).trans (.swap e x l)
def isort (l : List (Int × Info)) : List (Int × Info) := l.foldr ins []
theorem isort_perm : ∀ l, (isort l).Perm l
  | [] => .refl _
  | e :: l => (ins_perm e (isort l)).trans ((isort_perm l).cons e)
theorem isort_ref : isort refL = tableL := by kernel_rfl
theorem ref_perm : refL.Perm tableL := by
  have h := isort_perm refL
  rw [isort_ref] at h
  exact h.symm
theorem ref_codes : refL.Pairwise (fun a b => a.1 ≠ b.1) :=
  (ref_perm.pairwise_iff (fun h => Ne.symm h)).2 (codes_apart.imp (fun h => Int.ne_of_lt h))
theorem apart_pair : ∀ (l : List (Int × Info)), apartB l = true → l.Pairwise (fun a b => a.2.name.data.toList ≠ b.2.name.data.toList)
  | [], _ => .nil
  | e :: l, h => by
    simp only [apartB, Bool.and_eq_true, List.all_eq_true] at h
    refine List.pairwise_cons.2 ⟨fun x hx he => ?_, apart_pair l h.2⟩
    have h1 := h.1 x hx
    rw [he] at h1
    simp at h1
theorem ref_names : refL.Pairwise (fun a b => a.2.name.data.toList ≠ b.2.name.data.toList) :=
  (ref_perm.pairwise_iff (fun h => Ne.symm h)).2 (apart_pair tableL names_apart)
theorem find_key {κ : Type} [BEq κ] [LawfulBEq κ] (f : Int × Info → κ) (e : Int × Info) : ∀ l : List (Int × Info), l.Pairwise (fun a b => f a ≠ f b) → e ∈ l → l.find? (fun x => f x == f e) = some e
  | [], _, h => by cases h
  | x :: l, hp, h => by
    rw [List.find?_cons]
    rcases List.mem_cons.1 h with rfl | h
    · simp
    · have h1 := List.rel_of_pairwise_cons hp h
      rw [beq_eq_false_iff_ne.2 h1]
      exact find_key f e l (List.Pairwise.of_cons hp) h
theorem ref_find (c : Int) : (refL.find? fun e => e.1 == c).map (·.2) = opInfo c := by
  cases h : opInfo c with
  | some i =>
    have h1 := find_key (fun e => e.1) (c, i) refL ref_codes (ref_perm.mem_iff.2 (opInfo_mem h))
    rw [show (refL.find? fun e => e.1 == c) = some (c, i) from h1]
    rfl
  | none =>
    rw [Option.map_eq_none_iff, List.find?_eq_none]
    intro e he hb
    have h1 := opInfo_of_mem (c := e.1) (i := e.2) (ref_perm.mem_iff.1 he) codes_apart
    rw [show e.1 = c by simpa using hb, h] at h1
    cases h1
theorem ref_find_name (nm : List UInt8) : (refL.find? fun e => e.2.name.data.toList == nm).map (·.1) = codeOf nm := by
  cases h : (tableL.find? fun e => e.2.name.data.toList == nm) with
  | some e =>
    have h2 := List.find?_some h
    have h3 : e.2.name.data.toList = nm := by simpa using h2
    subst h3
    have h1 := find_key (fun e => e.2.name.data.toList) e refL ref_names (ref_perm.mem_iff.2 (List.mem_of_find?_eq_some h))
    unfold codeOf
    rw [h, show (refL.find? fun x => x.2.name.data.toList == e.2.name.data.toList) = some e from h1]
  | none =>
    unfold codeOf
    rw [h]
    have : (refL.find? fun e => e.2.name.data.toList == nm) = none := by
      rw [List.find?_eq_none] at h ⊢
      intro e he
      exact h e (ref_perm.mem_iff.1 he)
    rw [this]
theorem find_at (p : Int × Info → Bool) (e : Int × Info) : ∀ (l : List (Int × Info)) (k : Nat), l[k]? = some e → (∀ j x, j < k → l[j]? = some x → p x = false) → p e = true → l.find? p = some e
  | [], k, h, _, _ => by simp at h
  | a :: l, 0, h, _, hp => by
    simp at h
    subst h
    rw [List.find?_cons, hp]
  | a :: l, k + 1, h, hn, hp => by
    rw [List.find?_cons, hn 0 a (by omega) rfl]
    exact find_at p e l k (by simpa using h) (fun j x hj hx => hn (j + 1) x (by omega) (by simpa using hx)) hp
theorem find_not (p : Int × Info → Bool) (l : List (Int × Info)) (h : ∀ j x, j < l.length → l[j]? = some x → p x = false) : l.find? p = none := by
  rw [List.find?_eq_none]
  intro x hx hp
  obtain ⟨j, hj, rfl⟩ := List.getElem_of_mem hx
  rw [h j _ hj (List.getElem?_eq_getElem hj)] at hp
  cases hp
theorem rowsV_get : ∀ (l : List (Int × Info)) (k j : Nat) (e : Int × Info), l[k]? = some e → j < 5 → (rowsV l)[5 * k + j]? = (rowV e)[j]?
  | [], k, j, e, h, _ => by simp at h
  | a :: l, 0, j, e, h, hj => by
    simp at h
    subst h
    rw [show rowsV (a :: l) = rowV a ++ rowsV l from List.flatMap_cons, List.getElem?_append_left (by simp [rowV]; omega)]
    simp
  | a :: l, k + 1, j, e, h, hj => by
    rw [show rowsV (a :: l) = rowV a ++ rowsV l from List.flatMap_cons, List.getElem?_append_right (by simp [rowV]; omega), ← rowsV_get l k j e (by simpa using h) hj]
    simp [rowV]
    rw [show 5 * (k + 1) + j - 5 = 5 * k + j by omega]
end Go.Proofs.YtlbgbpgjccbbjaaDoor.Op
