/-
  The texts of numbers, with a point ahead of the last ones; unlike numbers have unlike texts. Plain.
-/
import Derived.Test.YtekpdcofjhdiiaaGreatDoorValStr
import Derived.Lib.ItoaNum
namespace Go.Proofs.YtekpdcofjhdiiaaGreatDoor.Val
open Go.RowKit Go.Lib
set_option linter.unusedVariables false
/-- a number's digits, at least so many -/
def digitsL (u least : Nat) : List UInt8 := List.replicate (least - (decDigits u).length) 48 ++ decDigits u
def pointL (s : List UInt8) (k : Nat) : List UInt8 := if k = 0 then s else s.take (s.length - k) ++ 46 :: s.drop (s.length - k)
def signL (neg : Bool) (s : List UInt8) : List UInt8 := if neg then 45 :: s else s
def decT (n : Int) (k : Nat) : List UInt8 := signL (decide (n < 0)) (pointL (digitsL n.natAbs (k + 1)) k)
def textP (x : Va) (t : Ty) : Option (List UInt8) := if !fitsB t true x then none else if x.null then some [78, 85, 76, 76] else if t.kind == 4 then some (if x.n == 1 then [84, 82, 85, 69] else [70, 65, 76, 83, 69]) else if t.kind == 3 then some (39 :: (quoteL x.s.data.toList ++ [39])) else some (decT x.n t.scale.toNat)
def textOut : Option (List UInt8) → ByteArray × Bool
  | some l => (⟨l.toArray⟩, true)
  | none => (⟨#[]⟩, false)
def val (l : List UInt8) : Nat := l.foldl (fun a c => a * 10 + (c.toNat - 48)) 0
theorem val_snoc (l : List UInt8) (c : UInt8) : val (l ++ [c]) = val l * 10 + (c.toNat - 48) := by unfold val; rw [List.foldl_append]; rfl
theorem val_dec (u : Nat) : val (decDigits u) = u := by
  induction u using Nat.strongRecOn with
  | ind u ih =>
    rw [decDigits]
    split
    · rename_i h
      show val ([] ++ [UInt8.ofNat (48 + u)]) = u
      rw [val_snoc]
      show 0 * 10 + ((48 + u) % 256 - 48) = u
      omega
    · rename_i h
      rw [val_snoc, ih (u / 10) (by omega)]
      show u / 10 * 10 + ((48 + u % 10) % 256 - 48) = u
      omega
theorem val_zeros : ∀ (k : Nat) (l : List UInt8), val (List.replicate k 48 ++ l) = val l
  | 0, l => by simp
  | k + 1, l => by
    have h := val_zeros k l
    unfold val at *
    rw [List.replicate_succ, List.cons_append, List.foldl_cons]
    exact h
theorem val_digits (u least : Nat) : val (digitsL u least) = u := by unfold digitsL; rw [val_zeros, val_dec]
theorem dec_bytes (u : Nat) : ∀ c ∈ decDigits u, 48 ≤ c ∧ c ≤ 57 := by
  induction u using Nat.strongRecOn with
  | ind u ih =>
    rw [decDigits]
    split
    · rename_i h
      intro c hc
      rw [List.mem_singleton.1 hc]
      simp only [UInt8.le_iff_toNat_le]
      show 48 ≤ (48 + u) % 256 ∧ (48 + u) % 256 ≤ 57
      omega
    · rename_i h
      intro c hc
      rcases List.mem_append.1 hc with hc | hc
      · exact ih (u / 10) (by omega) c hc
      · rw [List.mem_singleton.1 hc]
        simp only [UInt8.le_iff_toNat_le]
        show 48 ≤ (48 + u % 10) % 256 ∧ (48 + u % 10) % 256 ≤ 57
        omega
theorem digits_bytes (u least : Nat) : ∀ c ∈ digitsL u least, 48 ≤ c ∧ c ≤ 57 := by
  intro c hc
  unfold digitsL at hc
  rcases List.mem_append.1 hc with hc | hc
  · rw [List.eq_of_mem_replicate hc]; decide
  · exact dec_bytes u c hc
theorem dec_pos (u : Nat) : 0 < (decDigits u).length := by rw [decDigits]; split <;> simp
theorem digits_len (u least : Nat) : least ≤ (digitsL u least).length ∧ 0 < (digitsL u least).length := by
  have := dec_pos u
  unfold digitsL
  rw [List.length_append, List.length_replicate]
  omega
theorem point_len (s : List UInt8) (k : Nat) (hk : k ≤ s.length) : (pointL s k).length = s.length + (if k = 0 then 0 else 1) := by
  unfold pointL
  split
  · simp
  · simp; omega
theorem point_inj {s s' : List UInt8} {k : Nat} (h1 : k ≤ s.length) (h2 : k ≤ s'.length) (h : pointL s k = pointL s' k) : s = s' := by
  have hl := congrArg List.length h
  rw [point_len s k h1, point_len s' k h2] at hl
  have hl : s.length = s'.length := by omega
  unfold pointL at h
  split at h
  · exact h
  · have h3 := List.append_inj h (by simp; omega)
    have h4 := h3.2
    simp only [List.cons.injEq, true_and] at h4
    rw [← List.take_append_drop (s.length - k) s, h3.1, h4]
    exact List.take_append_drop _ _
theorem point_head {s : List UInt8} {k : Nat} (hk : k < s.length) (hb : ∀ c ∈ s, 48 ≤ c ∧ c ≤ 57) : ∀ l, pointL s k ≠ 45 :: l := by
  intro l h
  obtain ⟨a, t, rfl⟩ : ∃ a t, s = a :: t := List.exists_cons_of_ne_nil (by rintro rfl; simp at hk)
  have ha := hb a (by simp)
  unfold pointL at h
  split at h
  · cases h; exact absurd ha.1 (by decide)
  · rw [show (a :: t).length - k = (t.length - k) + 1 by simp at hk ⊢; omega] at h
    simp at h
    rw [h.1] at ha
    exact absurd ha.1 (by decide)
theorem decT_inj {n m : Int} {k : Nat} (h : decT n k = decT m k) : n = m := by
  have d1 := digits_len n.natAbs (k + 1)
  have d2 := digits_len m.natAbs (k + 1)
  have b1 := digits_bytes n.natAbs (k + 1)
  have b2 := digits_bytes m.natAbs (k + 1)
  have key : pointL (digitsL n.natAbs (k + 1)) k = pointL (digitsL m.natAbs (k + 1)) k → n.natAbs = m.natAbs := fun h => by
    have h3 := congrArg val (point_inj (by omega) (by omega) h)
    rw [val_digits, val_digits] at h3
    exact h3
  unfold decT signL at h
  by_cases hn : n < 0 <;> by_cases hm : m < 0
  · simp only [hn, hm, decide_true, if_true] at h
    have := key (List.cons.inj h).2
    omega
  · simp only [hn, hm, decide_true, decide_false, if_true, Bool.false_eq_true, if_false] at h
    exact absurd h.symm (point_head (by omega) b2 _)
  · simp only [hn, hm, decide_true, decide_false, if_true, Bool.false_eq_true, if_false] at h
    exact absurd h (point_head (by omega) b1 _)
  · simp only [hn, hm, decide_false, Bool.false_eq_true, if_false] at h
    have := key h
    omega
/-- the point stands ahead of the last ones -/
theorem decT_point (n : Int) (k : Nat) (hk : 0 < k) : k + 2 ≤ (decT n k).length ∧ (decT n k)[(decT n k).length - k - 1]? = some 46 := by
  have d1 := digits_len n.natAbs (k + 1)
  have hp : ∀ s : List UInt8, k + 1 ≤ s.length → k + 2 ≤ (pointL s k).length ∧ (pointL s k)[(pointL s k).length - k - 1]? = some 46 := fun s hs => by
    rw [point_len s k (by omega), if_neg (by omega)]
    refine ⟨by omega, ?_⟩
    unfold pointL
    rw [if_neg (by omega), List.getElem?_append_right (by simp; omega), show s.length + 1 - k - 1 - (s.take (s.length - k)).length = 0 by simp; omega]
    rfl
  obtain ⟨h1, h2⟩ := hp _ d1.1
  unfold decT signL
  split
  · refine ⟨by simp; omega, ?_⟩
    rw [List.length_cons, show (pointL (digitsL n.natAbs (k + 1)) k).length + 1 - k - 1 = ((pointL (digitsL n.natAbs (k + 1)) k).length - k - 1) + 1 by omega, List.getElem?_cons_succ]
    exact h2
  · exact ⟨h1, h2⟩
theorem decT_len (n : Int) (k : Nat) : k + 1 ≤ (decT n k).length := by
  have d1 := digits_len n.natAbs (k + 1)
  unfold decT signL
  split
  · rw [List.length_cons, point_len _ _ (by omega)]; omega
  · rw [point_len _ _ (by omega)]; omega
end Go.Proofs.YtekpdcofjhdiiaaGreatDoor.Val
