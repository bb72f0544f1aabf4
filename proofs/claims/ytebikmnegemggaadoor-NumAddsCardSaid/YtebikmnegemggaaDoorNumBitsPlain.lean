/-
  Plain facts on bits for chapter 2's statements. No condition beyond what each theorem names.
-/
import Derived.Laws.Bits64b
namespace Go.Proofs.YtebikmnegemggaaDoor.Num

theorem and_add_or : ∀ (k a b : Nat), a < 2 ^ k → b < 2 ^ k → (a &&& b) + (a ||| b) = a + b := by
  intro k
  induction k with
  | zero => intro a b ha hb; have : a = 0 := by omega
            have : b = 0 := by omega
            subst a; subst b; rfl
  | succ k ih =>
    intro a b ha hb
    have h := ih (a / 2) (b / 2) (by omega) (by omega)
    have h1 : (a &&& b) / 2 = a / 2 &&& b / 2 := by have := Nat.shiftRight_and_distrib (a := a) (b := b) (i := 1); simpa [Nat.shiftRight_eq_div_pow] using this
    have h2 : (a ||| b) / 2 = a / 2 ||| b / 2 := by have := Nat.shiftRight_or_distrib (a := a) (b := b) (i := 1); simpa [Nat.shiftRight_eq_div_pow] using this
    have h3 : (a &&& b) % 2 + (a ||| b) % 2 = a % 2 + b % 2 := by
      have e1 : (a &&& b) % 2 = a % 2 &&& b % 2 := by
        have := Nat.and_mod_two_pow (a := a) (b := b) (n := 1); simpa using this
      have e2 : (a ||| b) % 2 = a % 2 ||| b % 2 := by
        have := Nat.or_mod_two_pow (a := a) (b := b) (n := 1); simpa using this
      rw [e1, e2]
      rcases (show a % 2 = 0 ∨ a % 2 = 1 by omega) with p | p <;> rcases (show b % 2 = 0 ∨ b % 2 = 1 by omega) with q | q <;> rw [p, q] <;> rfl
    omega
end Go.Proofs.YtebikmnegemggaaDoor.Num
