/-
  Bytes held against bytes; texts in quotes; digits. Plain.
-/
import Derived.Test.YtekpdcofjhdiiaaGreatDoorValPlain
import Derived.Laws.Strings
namespace Go.Proofs.YtekpdcofjhdiiaaGreatDoor.Val
open Go.RowKit
set_option linter.unusedVariables false
theorem less_irrefl : ∀ a : List UInt8, Op.bytesLess a a = false
  | [] => rfl
  | a :: x => by simp [Op.bytesLess, less_irrefl x]
theorem less_asymm : ∀ a b : List UInt8, Op.bytesLess a b = true → Op.bytesLess b a = false
  | _, [], h => by simp [Op.bytesLess] at h
  | [], b :: y, h => rfl
  | a :: x, b :: y, h => by
    simp only [Op.bytesLess, Bool.or_eq_true, decide_eq_true_eq, Bool.and_eq_true, beq_iff_eq] at h
    simp only [Op.bytesLess, Bool.or_eq_false_iff, decide_eq_false_iff_not]
    rcases h with h | ⟨h, h2⟩
    · exact ⟨fun h3 => by rw [UInt8.lt_iff_toNat_lt] at h h3; omega, by rw [Bool.and_eq_false_iff]; left; rw [beq_eq_false_iff_ne]; rintro rfl; rw [UInt8.lt_iff_toNat_lt] at h; omega⟩
    · subst h
      exact ⟨fun h3 => by rw [UInt8.lt_iff_toNat_lt] at h3; omega, by rw [less_asymm x y h2]; simp⟩
theorem less_total : ∀ a b : List UInt8, a ≠ b → Op.bytesLess a b = false → Op.bytesLess b a = true
  | [], [], h, _ => absurd rfl h
  | a :: x, [], _, _ => rfl
  | [], b :: y, _, h => by simp [Op.bytesLess] at h
  | a :: x, b :: y, hne, h => by
    simp only [Op.bytesLess, Bool.or_eq_false_iff, decide_eq_false_iff_not, Bool.and_eq_false_iff, beq_eq_false_iff_ne] at h
    simp only [Op.bytesLess, Bool.or_eq_true, decide_eq_true_eq, Bool.and_eq_true, beq_iff_eq]
    obtain ⟨h1, h2⟩ := h
    by_cases he : a = b
    · subst he
      right
      refine ⟨rfl, less_total x y (fun h => hne (by rw [h])) ?_⟩
      rcases h2 with h2 | h2
      · exact absurd rfl h2
      · exact h2
    · left
      rw [UInt8.lt_iff_toNat_lt] at h1 ⊢
      have : a.toNat ≠ b.toNat := fun h => he (UInt8.toNat_inj.1 h)
      omega
theorem less_trans : ∀ a b c : List UInt8, Op.bytesLess a b = true → Op.bytesLess b c = true → Op.bytesLess a c = true
  | _, [], _, h, _ => by simp [Op.bytesLess] at h
  | _, _ :: _, [], _, h => by simp [Op.bytesLess] at h
  | [], _ :: _, _ :: _, _, _ => rfl
  | a :: x, b :: y, c :: z, h1, h2 => by
    simp only [Op.bytesLess, Bool.or_eq_true, decide_eq_true_eq, Bool.and_eq_true, beq_iff_eq] at h1 h2 ⊢
    rcases h1 with h1 | ⟨rfl, h1⟩ <;> rcases h2 with h2 | ⟨rfl, h2⟩
    · left; rw [UInt8.lt_iff_toNat_lt] at *; omega
    · left; exact h1
    · left; exact h2
    · right; exact ⟨rfl, less_trans x y z h1 h2⟩
def cmpS (a b : List UInt8) : Int := if Op.bytesLess a b then -1 else if a = b then 0 else 1
theorem cmpS_turn (a b : List UInt8) : cmpS a b = -cmpS b a := by
  unfold cmpS
  by_cases he : a = b
  · subst he
    rw [less_irrefl]
    simp
  · cases h : Op.bytesLess a b
    · rw [less_total a b he h, if_neg he]; rfl
    · rw [less_asymm a b h, if_neg (Ne.symm he)]; rfl
theorem cmpS_zero (a b : List UInt8) : cmpS a b = 0 ↔ a = b := by
  unfold cmpS
  by_cases he : a = b
  · subst he; simp [less_irrefl]
  · cases h : Op.bytesLess a b <;> simp [he]
theorem cmpS_self (a : List UInt8) : cmpS a a = 0 := (cmpS_zero a a).2 rfl
theorem cmpS_trans {a b c : List UInt8} (h1 : cmpS a b ≤ 0) (h2 : cmpS b c ≤ 0) : cmpS a c ≤ 0 := by
  have key : ∀ x y : List UInt8, cmpS x y ≤ 0 ↔ (Op.bytesLess x y = true ∨ x = y) := fun x y => by
    unfold cmpS
    by_cases he : x = y
    · subst he; simp [less_irrefl]
    · cases h : Op.bytesLess x y <;> simp [he]
  rw [key] at *
  rcases h1 with h1 | rfl
  · rcases h2 with h2 | rfl
    · exact .inl (less_trans a b c h1 h2)
    · exact .inl h1
  · exact h2
/-- how two values of a type are held against one another -/
def cmpP (a b : Va) (ta tb : Ty) : Option Int := if !fitsB ta false a || !fitsB tb false b then none else if numB ta && numB tb then some (cmpI (a.n * ten (9 - ta.scale).toNat) (b.n * ten (9 - tb.scale).toNat)) else if (ta.kind != tb.kind || ta.scale != tb.scale) || numB ta then none else some (if cmpS a.s.data.toList b.s.data.toList ≠ 0 then cmpS a.s.data.toList b.s.data.toList else cmpI a.n b.n)
def cmpOut : Option Int → Int × Bool
  | some c => (c, true)
  | none => (0, false)
def orderP (a b : Va) (t : Ty) : Int := if a.null && b.null then 0 else if a.null then -1 else if b.null then 1 else (cmpOut (cmpP a b t t)).1
/-! texts -/
def quoteL (l : List UInt8) : List UInt8 := l.flatMap fun c => if c = 39 then [39, 39] else [c]
theorem quote_inj : ∀ a b : List UInt8, quoteL a ++ [39] = quoteL b ++ [39] → a = b
  | [], [], _ => rfl
  | [], b :: y, h => by
    by_cases hb : b = 39
    · subst hb
      simp [quoteL] at h
    · simp [quoteL, hb] at h
  | a :: x, [], h => by
    by_cases ha : a = 39
    · subst ha
      simp [quoteL] at h
    · simp [quoteL, ha] at h
  | a :: x, b :: y, h => by
    have hx : quoteL (a :: x) = (if a = 39 then [39, 39] else [a]) ++ quoteL x := rfl
    have hy : quoteL (b :: y) = (if b = 39 then [39, 39] else [b]) ++ quoteL y := rfl
    rw [hx, hy] at h
    by_cases ha : a = 39
    · by_cases hb : b = 39
      · subst ha; subst hb
        simp at h
        rw [quote_inj x y (by rw [h])]
      · subst ha
        simp [hb] at h
        exact absurd h.1.symm hb
    · by_cases hb : b = 39
      · subst hb
        simp [ha] at h
      · simp [ha, hb] at h
        rw [h.1, quote_inj x y (by rw [h.2])]
end Go.Proofs.YtekpdcofjhdiiaaGreatDoor.Val
