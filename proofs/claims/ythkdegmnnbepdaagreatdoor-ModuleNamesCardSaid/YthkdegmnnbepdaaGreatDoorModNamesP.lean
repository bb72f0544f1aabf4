/-
  Names, one behind the other; names that are cut. Plain.
-/
import Derived.Lib.ValidLaws
namespace Go.Proofs.YthkdegmnnbepdaaGreatDoor.Mod
open Go.Lib
set_option linter.unusedVariables false
theorem acc_hi (x : Nat) : accHi x ≤ 191 := by unfold accHi; (repeat' split) <;> omega
theorem checkN_some {n b1 b2 b3 sz lo hi k : Nat} (h : checkN n b1 b2 b3 sz lo hi = some k) : 2 ≤ k ∧ k ≤ 4 ∧ k ≤ n ∧ lo ≤ b1 ∧ b1 ≤ hi ∧ (3 ≤ k → 128 ≤ b2 ∧ b2 ≤ 191) ∧ (4 ≤ k → 128 ≤ b3 ∧ b3 ≤ 191) := by
  unfold checkN at h
  repeat' split at h
  all_goals first | (cases h; done) | (simp only [Option.some.injEq] at h; omega)
theorem checkN_ext {n n' b1 b2 b3 b1' b2' b3' sz lo hi k : Nat} (h : checkN n b1 b2 b3 sz lo hi = some k) (hn : k ≤ n') (h1 : b1' = b1) (h2 : 3 ≤ k → b2' = b2) (h3 : 4 ≤ k → b3' = b3) : checkN n' b1' b2' b3' sz lo hi = some k := by
  unfold checkN at h
  split at h
  · split at h
    · cases h
    · simp only [Option.some.injEq] at h
      subst h
      unfold checkN
      rw [if_pos (by assumption), if_neg (by omega)]
  · split at h
    · split at h
      · cases h
      · simp only [Option.some.injEq] at h
        subst h
        unfold checkN
        rw [if_neg (by assumption), if_pos (by assumption), if_neg (by have := h2 (by omega); omega)]
    · split at h
      · split at h
        · cases h
        · simp only [Option.some.injEq] at h
          subst h
          unfold checkN
          rw [if_neg (by assumption), if_neg (by assumption), if_pos (by assumption), if_neg (by have := h2 (by omega); have := h3 (by omega); omega)]
      · cases h
theorem getD_app (a b : List UInt8) {i : Nat} (h : i < a.length) : (a ++ b).getD i 0 = a.getD i 0 := by
  rw [List.getD_eq_getElem?_getD, List.getD_eq_getElem?_getD, List.getElem?_append_left h]
/-- what stands behind a name decides -/
theorem valid_append : ∀ (n : Nat) (a b : List UInt8), a.length ≤ n → validD a = true → validD (a ++ b) = validD b
  | _, [], b, _, _ => rfl
  | 0, _ :: _, _, hn, _ => by simp at hn
  | n + 1, c :: t, b, hn, h => by
    by_cases hc : c.toNat < 128
    · rw [validD_cons c t hc] at h
      rw [List.cons_append, validD_cons c _ hc]
      exact valid_append n t b (by simp at hn; omega) h
    · have h0 : 128 ≤ ((c :: t).getD 0 0).toNat := by show 128 ≤ c.toNat; omega
      rw [validD_lead (c :: t) (by simp) h0] at h
      rw [validD_lead ((c :: t) ++ b) (by simp) (by show 128 ≤ c.toNat; omega)]
      cases hk : checkN (c :: t).length ((c :: t).getD 1 0).toNat ((c :: t).getD 2 0).toNat ((c :: t).getD 3 0).toNat (firstT ((c :: t).getD 0 0).toNat % 8) (accLo (firstT ((c :: t).getD 0 0).toNat / 16)) (accHi (firstT ((c :: t).getD 0 0).toNat / 16)) with
      | none => rw [hk] at h; cases h
      | some k =>
        rw [hk] at h
        dsimp only at h
        obtain ⟨k1, k2, k3, _⟩ := checkN_some hk
        have hx := checkN_ext (n' := ((c :: t) ++ b).length) (b1' := (((c :: t) ++ b).getD 1 0).toNat) (b2' := (((c :: t) ++ b).getD 2 0).toNat) (b3' := (((c :: t) ++ b).getD 3 0).toNat) hk (by rw [List.length_append]; omega) (by rw [getD_app _ _ (by omega)]) (fun h3 => by rw [getD_app _ _ (by omega)]) (fun h4 => by rw [getD_app _ _ (by omega)])
        rw [show ((c :: t) ++ b).getD 0 0 = (c :: t).getD 0 0 from rfl, hx]
        dsimp only
        rw [List.drop_append_of_le_length k3]
        exact valid_append n _ b (by rw [List.length_drop]; simp at hn ⊢; omega) h
/-- a name in which a byte stands that begins a letter: from there on it is one too -/
theorem valid_split : ∀ (n : Nat) (a : List UInt8) (c : UInt8) (t : List UInt8), a.length ≤ n → 192 ≤ c.toNat → validD (a ++ c :: t) = true → validD (c :: t) = true
  | _, [], c, t, _, _, h => h
  | 0, _ :: _, _, _, hn, _, _ => by simp at hn
  | n + 1, d :: a, c, t, hn, hc, h => by
    by_cases hd : d.toNat < 128
    · rw [List.cons_append, validD_cons d _ hd] at h
      exact valid_split n a c t (by simp at hn; omega) hc h
    · rw [validD_lead ((d :: a) ++ c :: t) (by simp) (by show 128 ≤ d.toNat; omega)] at h
      cases hk : checkN ((d :: a) ++ c :: t).length (((d :: a) ++ c :: t).getD 1 0).toNat (((d :: a) ++ c :: t).getD 2 0).toNat (((d :: a) ++ c :: t).getD 3 0).toNat (firstT (((d :: a) ++ c :: t).getD 0 0).toNat % 8) (accLo (firstT (((d :: a) ++ c :: t).getD 0 0).toNat / 16)) (accHi (firstT (((d :: a) ++ c :: t).getD 0 0).toNat / 16)) with
      | none => rw [hk] at h; cases h
      | some k =>
        rw [hk] at h
        dsimp only at h
        obtain ⟨k1, k2, k3, k4, k5, k6, k7⟩ := checkN_some hk
        have hhi := acc_hi (firstT (((d :: a) ++ c :: t).getD 0 0).toNat / 16)
        have hat : ((d :: a) ++ c :: t).getD (d :: a).length 0 = c := by
          rw [List.getD_eq_getElem?_getD, List.getElem?_append_right (Nat.le_refl _), Nat.sub_self]
          rfl
        by_cases hle : k ≤ (d :: a).length
        · rw [List.drop_append_of_le_length hle] at h
          exact valid_split n _ c t (by rw [List.length_drop]; simp at hn ⊢; omega) hc h
        · exfalso
          have hlen : (d :: a).length = a.length + 1 := rfl
          rcases (show (d :: a).length = 1 ∨ (d :: a).length = 2 ∨ (d :: a).length = 3 by omega) with e | e | e
          · rw [e] at hat; rw [hat] at k5; omega
          · rw [e] at hat; rw [hat] at k6; have := k6 (by omega); omega
          · rw [e] at hat; rw [hat] at k7; have := k7 (by omega); omega
theorem names_both {a b : List UInt8} (ha : validD a = true) (hb : validD b = true) : validD (a ++ b) = true := by rw [valid_append _ a b (Nat.le_refl _) ha, hb]
theorem name_cut (a : List UInt8) : validD (a ++ [195]) = false := by
  cases h : validD (a ++ [195])
  · rfl
  · have h2 := valid_split _ a 195 [] (Nat.le_refl _) (by decide) h
    exact absurd h2 (by decide)
theorem name_half (a : List UInt8) : validD (a ++ [237, 160, 128]) = false := by
  cases h : validD (a ++ [237, 160, 128])
  · rfl
  · have h2 := valid_split _ a 237 [160, 128] (Nat.le_refl _) (by decide) h
    exact absurd h2 (by decide)
theorem name_mid (b : List UInt8) : validD (128 :: b) = false := by
  rw [validD_lead (128 :: b) (by simp) (by show 128 ≤ (128 : UInt8).toNat; decide)]
  have e : firstT ((128 :: b).getD 0 0).toNat = firstT 128 := rfl
  rw [e]
  have e2 : checkN (128 :: b).length ((128 :: b).getD 1 0).toNat ((128 :: b).getD 2 0).toNat ((128 :: b).getD 3 0).toNat (firstT 128 % 8) (accLo (firstT 128 / 16)) (accHi (firstT 128 / 16)) = none := by
    unfold checkN
    rw [if_neg (by decide), if_neg (by decide), if_neg (by decide)]
  rw [e2]
theorem name_four : validD [240, 159, 152, 128] = true := by decide
end Go.Proofs.YthkdegmnnbepdaaGreatDoor.Mod
