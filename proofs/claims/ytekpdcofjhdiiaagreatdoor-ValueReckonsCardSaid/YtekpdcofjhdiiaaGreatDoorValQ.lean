/-
  Each quote twice: what strings.ReplaceAll makes of it. Plain.
-/
import Derived.Test.YtekpdcofjhdiiaaGreatDoorValText
import Derived.Lib.Replace
import Derived.Lib.CountLaws
namespace Go.Proofs.YtekpdcofjhdiiaaGreatDoor.Val
open Go.RowKit Go.Lib
set_option linter.unusedVariables false
theorem quote_cons (b : UInt8) (l : List UInt8) : quoteL (b :: l) = (if b = 39 then [39, 39] else [b]) ++ quoteL l := rfl
theorem index39 (b : UInt8) (l : List UInt8) : index (b :: l) [39] = if b = 39 then 0 else if index l [39] == -1 then -1 else index l [39] + 1 := by
  rw [index]
  by_cases h : b = 39
  · subst h; rfl
  · rw [if_neg h]
    have : ([39] : List UInt8).isPrefixOf (b :: l) = false := by
      simp [List.isPrefixOf]
      exact fun h9 => h h9.symm
    rw [this]
    rfl
theorem quote_index : ∀ l : List UInt8, (index l [39] = -1 → quoteL l = l) ∧ (∀ i : Nat, index l [39] = i → quoteL l = l.take i ++ [39, 39] ++ quoteL (l.drop (i + 1)))
  | [] => ⟨fun _ => rfl, fun i h => by rw [show index [] [39] = -1 from rfl] at h; omega⟩
  | b :: l => by
    obtain ⟨h1, h2⟩ := quote_index l
    rw [index39]
    by_cases hb : b = 39
    · subst hb
      rw [if_pos rfl]
      refine ⟨fun h => by omega, fun i h => ?_⟩
      obtain rfl : i = 0 := by omega
      rfl
    · rw [if_neg hb, quote_cons, if_neg hb]
      by_cases hi : index l [39] = -1
      · rw [hi, if_pos (by decide)]
        exact ⟨fun _ => by rw [h1 hi]; rfl, fun i h => by omega⟩
      · rw [if_neg (by simpa using hi)]
        have := index_ge l [39]
        refine ⟨fun h => by omega, fun i h => ?_⟩
        obtain ⟨j, hj⟩ : ∃ j : Nat, index l [39] = j := ⟨(index l [39]).toNat, by omega⟩
        obtain rfl : i = j + 1 := by omega
        rw [h2 j hj]
        rfl
theorem replace_quote : ∀ (k : Nat) (l : List UInt8), count l [39] ≤ k → replaceK [39] [39, 39] k l = quoteL l
  | 0, l, h => by
    rw [replaceK]
    by_cases hi : index l [39] = -1
    · exact ((quote_index l).1 hi).symm
    · have := index_ge l [39]
      obtain ⟨i, hi⟩ : ∃ i : Nat, index l [39] = i := ⟨(index l [39]).toNat, by omega⟩
      have := count_hit (s := l) (sub := [39]) (by simp) hi
      omega
  | k + 1, l, h => by
    rw [replaceK]
    by_cases hi : index l [39] = -1
    · rw [hi, if_pos (by decide)]
      exact ((quote_index l).1 hi).symm
    · have hge := index_ge l [39]
      obtain ⟨i, hi2⟩ : ∃ i : Nat, index l [39] = i := ⟨(index l [39]).toNat, by omega⟩
      have hc := count_hit (s := l) (sub := [39]) (by simp) hi2
      rw [if_neg (by simpa using hi), hi2, (quote_index l).2 i hi2]
      simp only [List.length_singleton, Int.toNat_natCast] at hc ⊢
      rw [replace_quote k (l.drop (i + 1)) (by omega)]
theorem replaceAll_quote (l : List UInt8) : replaceAll l [39] [39, 39] = quoteL l := by
  unfold replaceAll replace
  rw [if_neg (by decide)]
  exact replace_quote _ l (by unfold replaceNum; rw [if_pos (.inl (by decide))]; exact Nat.le_refl _)
end Go.Proofs.YtekpdcofjhdiiaaGreatDoor.Val
