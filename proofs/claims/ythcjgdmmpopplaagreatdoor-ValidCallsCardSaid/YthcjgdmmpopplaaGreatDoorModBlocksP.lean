/-
  Code of blocks in one another: what it is, that it is structured with its end, and not with one less, one more, or something behind or ahead. Plain.
-/
import Derived.Test.YthcjgdmmpopplaaGreatDoorPgLaw
import Derived.Test.YthcjgdmmpopplaaGreatDoorModStruct
namespace Go.Proofs.YthcjgdmmpopplaaGreatDoor.Pg
open Go.RowKit Go.Proofs.YthcjgdmmpopplaaGreatDoor.Op Go.Proofs.YthcjgdmmpopplaaGreatDoor.Mod
set_option linter.unusedVariables false
def isElse (x : Nat) : Bool := decide (x % 3 = 2) && decide (100 < x)
def blockR (x : Nat) : List Ins := ⟨2 + (x : Int) % 3, 64, 0⟩ :: ((if isElse x = true then [⟨5, 0, 0⟩] else []) ++ (if 200 < x then [⟨11, 0, 0⟩] else []))
def blockN (x : Nat) : Nat := if 200 < x then 0 else 1
def blocksC (l : List Nat) : List Ins := l.flatMap blockR
def blocksN : List Nat → Nat
  | [] => 0
  | x :: l => blockN x + blocksN l
theorem blocksC_snoc {l : List Nat} {k x : Nat} (h : l[k]? = some x) : blocksC (l.take (k + 1)) = blocksC (l.take k) ++ blockR x := by
  have hlt := (List.getElem?_eq_some_iff.1 h).1
  unfold blocksC
  rw [List.take_add_one, h, List.flatMap_append]
  simp
theorem blocksN_app : ∀ (l m : List Nat), blocksN (l ++ m) = blocksN l + blocksN m
  | [], m => by simp [blocksN]
  | x :: l, m => by
    show blockN x + blocksN (l ++ m) = blockN x + blocksN l + blocksN m
    rw [blocksN_app l m]
    omega
theorem blocksN_snoc {l : List Nat} {k x : Nat} (h : l[k]? = some x) : blocksN (l.take (k + 1)) = blocksN (l.take k) + blockN x := by
  rw [List.take_add_one, h, blocksN_app]
  simp [blocksN]
theorem blocksN_le : ∀ l : List Nat, blocksN l ≤ l.length
  | [] => Nat.le_refl _
  | x :: l => by
    have := blocksN_le l
    show blockN x + blocksN l ≤ l.length + 1
    have : blockN x ≤ 1 := by unfold blockN; split <;> omega
    omega
theorem blockR_len (x : Nat) : (blockR x).length ≤ 3 := by
  unfold blockR
  repeat' split
  all_goals simp
theorem blocksC_len : ∀ l : List Nat, (blocksC l).length ≤ 3 * l.length
  | [] => Nat.zero_le _
  | x :: l => by
    have h1 := blocksC_len l
    have h2 := blockR_len x
    have h3 : (blocksC (x :: l)).length = (blockR x).length + (blocksC l).length := by simp [blocksC]
    have h4 : (x :: l).length = l.length + 1 := rfl
    omega
theorem runS_open {st : List Int} {o : Int} (h : o = 2 ∨ o = 3 ∨ o = 4) : runS st [o] = some (st ++ [o]) := by rw [runS_one]; unfold stepS; rw [if_pos h]
theorem runS_else (st : List Int) : runS (st ++ [4]) [5] = some (st ++ [5]) := by
  rw [runS_one]; unfold stepS
  rw [if_neg (by decide), if_pos rfl, if_pos (by simp)]
  simp
theorem runS_shut (st : List Int) (o : Int) : runS (st ++ [o]) [11] = some st := by
  rw [runS_one]; unfold stepS
  rw [if_neg (by decide), if_neg (by decide), if_pos rfl, if_neg (by simp)]
  simp
theorem runS_cat {a b st e : List Int} (h : runS st a = some e) : runS st (a ++ b) = runS e b := by rw [runS_append, h]; rfl
theorem blockR_a {x : Nat} (h1 : isElse x = false) (h2 : ¬ 200 < x) : blockR x = [⟨2 + (x : Int) % 3, 64, 0⟩] ∧ blockN x = 1 := by unfold blockR blockN; rw [h1, if_neg h2, if_neg h2]; exact ⟨rfl, rfl⟩
theorem blockR_b {x : Nat} (h1 : isElse x = false) (h2 : 200 < x) : blockR x = [⟨2 + (x : Int) % 3, 64, 0⟩, ⟨11, 0, 0⟩] ∧ blockN x = 0 := by unfold blockR blockN; rw [h1, if_pos h2, if_pos h2]; exact ⟨rfl, rfl⟩
theorem blockR_c {x : Nat} (h1 : isElse x = true) (h2 : ¬ 200 < x) : blockR x = [⟨2 + (x : Int) % 3, 64, 0⟩, ⟨5, 0, 0⟩] ∧ blockN x = 1 := by unfold blockR blockN; rw [h1, if_neg h2, if_neg h2]; exact ⟨rfl, rfl⟩
theorem blockR_d {x : Nat} (h1 : isElse x = true) (h2 : 200 < x) : blockR x = [⟨2 + (x : Int) % 3, 64, 0⟩, ⟨5, 0, 0⟩, ⟨11, 0, 0⟩] ∧ blockN x = 0 := by unfold blockR blockN; rw [h1, if_pos h2, if_pos h2]; exact ⟨rfl, rfl⟩
theorem blockR_run (x : Nat) (st : List Int) : ∃ st', runS st ((blockR x).map Ins.op) = some st' ∧ st'.length = st.length + blockN x := by
  have hr : (x % 3 = 0 ∨ x % 3 = 1 ∨ x % 3 = 2) := by omega
  have ho : (2 + (x : Int) % 3 = 2 ∨ 2 + (x : Int) % 3 = 3 ∨ 2 + (x : Int) % 3 = 4) := by omega
  unfold blockR blockN
  rw [List.map_cons, show ∀ (o : Int) (l : List Int), o :: l = [o] ++ l from fun _ _ => rfl, runS_cat (runS_open ho)]
  by_cases he : isElse x = true
  · have he2 : x % 3 = 2 ∧ 100 < x := by simpa [isElse] using he
    rw [if_pos he, List.map_append, show List.map Ins.op [(⟨5, 0, 0⟩ : Ins)] = [5] from rfl]
    have e4 : 2 + (x : Int) % 3 = 4 := by omega
    try dsimp only
    rw [e4, runS_cat (runS_else st)]
    by_cases h2 : 200 < x
    · rw [if_pos h2, if_pos h2]
      exact ⟨st, runS_shut st 5, rfl⟩
    · rw [if_neg h2, if_neg h2]
      exact ⟨st ++ [5], rfl, by simp⟩
  · rw [if_neg he]
    by_cases h2 : 200 < x
    · rw [if_pos h2, if_pos h2]
      exact ⟨st, runS_shut st _, rfl⟩
    · rw [if_neg h2, if_neg h2]
      exact ⟨st ++ [_], rfl, by simp⟩
theorem blocks_run : ∀ (l : List Nat) (st : List Int), ∃ st', runS st ((blocksC l).map Ins.op) = some st' ∧ st'.length = st.length + blocksN l
  | [], st => ⟨st, rfl, rfl⟩
  | x :: l, st => by
    obtain ⟨s1, h1, h2⟩ := blockR_run x st
    obtain ⟨s2, h3, h4⟩ := blocks_run l s1
    refine ⟨s2, ?_, by show s2.length = st.length + (blockN x + blocksN l); omega⟩
    rw [show blocksC (x :: l) = blockR x ++ blocksC l by simp [blocksC], List.map_append, runS_cat h1]
    exact h3
theorem ends_run : ∀ (n : Nat) (st : List Int), st.length = n → runS st (List.replicate n 11) = some []
  | 0, st, h => by rw [List.eq_nil_of_length_eq_zero h]; rfl
  | n + 1, st, h => by
    obtain ⟨s, o, rfl⟩ : ∃ s o, st = s ++ [o] := ⟨st.dropLast, st.getLast (by intro e; rw [e] at h; cases h), (List.dropLast_concat_getLast _).symm⟩
    rw [List.replicate_succ, show ∀ l : List Int, 11 :: l = [11] ++ l from fun _ => rfl, runS_cat (runS_shut s o)]
    exact ends_run n s (by simp at h; exact h)
/-- the code that is closed -/
def closedC (l : List Nat) (n : Nat) : List Ins := blocksC l ++ List.replicate n ⟨11, 0, 0⟩
theorem closed_run (l : List Nat) : runS [] ((closedC l (blocksN l)).map Ins.op) = some [] := by
  obtain ⟨st, h1, h2⟩ := blocks_run l []
  unfold closedC
  rw [List.map_append, List.map_replicate, runS_cat h1]
  exact ends_run _ st (by simpa using h2)
theorem op_wf {o : Int} (h : 0 ≤ o ∧ o < 256) : (Lit.int .i64 o).wf = true := by
  show (decide (IntKind.i64.min ≤ o) && decide (o ≤ IntKind.i64.max)) = true
  rw [Bool.and_eq_true, decide_eq_true_iff, decide_eq_true_iff, show IntKind.i64.min = -9223372036854775808 by decide, show IntKind.i64.max = 9223372036854775807 by decide]
  omega
theorem closed_wf (l : List Nat) (n : Nat) : ∀ x ∈ blocksC l ++ List.replicate n (⟨11, 0, 0⟩ : Ins), (Lit.int .i64 x.op).wf = true := by
  intro x hx
  refine op_wf ?_
  rcases List.mem_append.1 hx with hx | hx
  · obtain ⟨y, _, hy⟩ := List.mem_flatMap.1 hx
    unfold blockR at hy
    rcases List.mem_cons.1 hy with rfl | hy
    · dsimp only; omega
    · rcases List.mem_append.1 hy with hy | hy
      · split at hy
        · rw [List.mem_singleton.1 hy]; decide
        · cases hy
      · split at hy
        · rw [List.mem_singleton.1 hy]; decide
        · cases hy
  · rw [(List.mem_replicate.1 hx).2]; decide
theorem whole_yes {c : List Int} (h : runS [] c = some []) : structB [] (c ++ [11]) = true := by
  rw [structB_run c [] [] [11] h, structB_end]
  rfl
theorem code_no {c : List Int} (h : runS [] c = some []) : structB [] c = false := by
  have := structB_run c [] [] [] h
  rw [List.append_nil] at this
  rw [this]
  rfl
theorem more_no {c : List Int} (h : runS [] c = some []) : structB [] (c ++ [11] ++ [1]) = false := by
  rw [List.append_assoc, structB_run c [] [] _ h]
  show structB [] (11 :: [1]) = false
  rw [structB_end]
  rfl
theorem other_no (c : List Int) : structB [] (5 :: c) = false := structB_bad (by decide) (by decide)
end Go.Proofs.YthcjgdmmpopplaaGreatDoor.Pg
