/-
  What the laws of scales, turns, orders and texts say, in plain Lean.
-/
import Derived.Test.YtafnjkeljjeamaaDoorValDivPl
import Derived.Test.YtafnjkeljjeamaaDoorValText
namespace Go.Proofs.YtafnjkeljjeamaaDoor.Val
open Go.RowKit
set_option linter.unusedVariables false
/-! scales -/
theorem tyB_typed {s : Int} (h0 : 0 ≤ s) (h9 : s ≤ 9) : tyB (typed s) = true := by
  rcases (show s = 0 ∨ s = 1 ∨ s = 2 ∨ s = 3 ∨ s = 4 ∨ s = 5 ∨ s = 6 ∨ s = 7 ∨ s = 8 ∨ s = 9 by omega) with rfl | rfl | rfl | rfl | rfl | rfl | rfl | rfl | rfl | rfl <;> rfl
theorem numB_typed {s : Int} (h0 : 0 ≤ s) (h9 : s ≤ 9) : numB (typed s) = true := by
  rcases (show s = 0 ∨ s = 1 ∨ s = 2 ∨ s = 3 ∨ s = 4 ∨ s = 5 ∨ s = 6 ∨ s = 7 ∨ s = 8 ∨ s = 9 by omega) with rfl | rfl | rfl | rfl | rfl | rfl | rfl | rfl | rfl | rfl <;> rfl
theorem scale_typed (s : Int) : (typed s).scale = s := by
  unfold typed
  split
  · rename_i h; exact h.symm
  · rfl
theorem kind_typed (s : Int) : (typed s).kind = 1 ∨ (typed s).kind = 2 := by
  unfold typed
  split
  · exact .inl rfl
  · exact .inr rfl
theorem fits_typed {s : Int} (h0 : 0 ≤ s) (h9 : s ≤ 9) (nu : Bool) (n : Int) : fitsB (typed s) nu (numVa n) = true := by
  rcases (show s = 0 ∨ s = 1 ∨ s = 2 ∨ s = 3 ∨ s = 4 ∨ s = 5 ∨ s = 6 ∨ s = 7 ∨ s = 8 ∨ s = 9 by omega) with rfl | rfl | rfl | rfl | rfl | rfl | rfl | rfl | rfl | rfl <;> rfl
theorem cmpI_self (x : Int) : cmpI x x = 0 := by
  unfold cmpI
  rw [if_neg (by omega), if_pos rfl]
theorem cmp_typed {s u : Int} (h0 : 0 ≤ s) (h9 : s ≤ 9) (k0 : 0 ≤ u) (k9 : u ≤ 9) (a b : Int) : cmpP (numVa a) (numVa b) (typed s) (typed u) = some (cmpI (a * ten (9 - s).toNat) (b * ten (9 - u).toNat)) := by
  unfold cmpP
  rw [fits_typed h0 h9, fits_typed k0 k9, numB_typed h0 h9, numB_typed k0 k9, scale_typed, scale_typed]
  rfl
theorem ten_join (a : Int) {j k m : Nat} (h : j + k = m) : a * ten j * ten k = a * ten m := by rw [← h, ten_add, Int.mul_assoc]
theorem scale_in {n fr tt : Int} (h0 : 0 ≤ fr) (h1 : fr ≤ tt) (h9 : tt ≤ 9) : scaleP n fr tt = if fits (n * ten (tt - fr).toNat) then (n * ten (tt - fr).toNat, 0) else (0, 11) := if_neg (by omega)
theorem fits_moreN {n : Int} {j k : Nat} (hjk : j ≤ k) (h : fits (n * ten k) = true) : fits (n * ten j) = true := by
  obtain ⟨d, rfl⟩ : ∃ d, k = j + d := ⟨k - j, by omega⟩
  induction d with
  | zero => exact h
  | succ d ih => exact ih (by omega) (fits_less n (j + d) h)
/-- what has no room is told so -/
theorem scales_no {n x y z q f r g : Int} (h0 : 0 ≤ x) (h1 : x ≤ y) (h2 : y ≤ z) (h9 : z ≤ 9) (hf : fits (n * ten (z - x).toNat) = false) (hq : scaleP n x y = (q, f)) (hr : scaleP q y z = (r, g)) : (f = 11 ∨ g = 11) ∧ (f = 0 ∨ f = 11) ∧ (g = 0 ∨ g = 11) := by
  rw [scale_in h0 h1 (by omega)] at hq
  rw [scale_in (by omega) h2 h9] at hr
  cases h : fits (n * ten (y - x).toNat)
  · rw [h] at hq
    simp only [Bool.false_eq_true, if_false, Prod.mk.injEq] at hq
    obtain ⟨rfl, rfl⟩ := hq
    refine ⟨.inl rfl, .inr rfl, ?_⟩
    split at hr <;> simp only [Prod.mk.injEq] at hr <;> omega
  · rw [h] at hq
    simp only [if_true, Prod.mk.injEq] at hq
    obtain ⟨rfl, rfl⟩ := hq
    rw [ten_join n (show (y - x).toNat + (z - y).toNat = (z - x).toNat by omega), hf] at hr
    simp only [Bool.false_eq_true, if_false, Prod.mk.injEq] at hr
    obtain ⟨rfl, rfl⟩ := hr
    exact ⟨.inr rfl, .inl rfl, .inr rfl⟩
theorem scales_yes {n x y z : Int} (h0 : 0 ≤ x) (h1 : x ≤ y) (h2 : y ≤ z) (h9 : z ≤ 9) (hf : fits (n * ten (z - x).toNat) = true) : scaleP n x y = (n * ten (y - x).toNat, 0) ∧ scaleP (n * ten (y - x).toNat) y z = (n * ten (z - x).toNat, 0) ∧ cmpP (numVa n) (numVa (n * ten (z - x).toNat)) (typed x) (typed z) = some 0 := by
  refine ⟨?_, ?_, ?_⟩
  · rw [scale_in h0 h1 (by omega), if_pos (fits_moreN (by omega) hf)]
  · rw [scale_in (by omega) h2 h9, ten_join n (show (y - x).toNat + (z - y).toNat = (z - x).toNat by omega), if_pos hf]
  · rw [cmp_typed h0 (by omega) (by omega) h9, ten_join n (show (z - x).toNat + (9 - z).toNat = (9 - x).toNat by omega), cmpI_self]
/-! turns -/
theorem aty_typed (op : UInt8) {s u : Int} (h0 : 0 ≤ s) (h9 : s ≤ 9) (k0 : 0 ≤ u) (k9 : u ≤ 9) : arithTy op (typed s) (typed u) = if op == 43 || op == 45 then some (max s u) else if op == 42 then (if s + u ≤ 9 then some (s + u) else none) else if op == 47 then (if u == 0 then some s else none) else none := by
  unfold arithTy
  rw [numB_typed h0 h9, numB_typed k0 k9, scale_typed, scale_typed]
  rfl
theorem arith_typed (op : UInt8) {s u m : Int} (h0 : 0 ≤ s) (h9 : s ≤ 9) (k0 : 0 ≤ u) (k9 : u ≤ 9) (hm : arithTy op (typed s) (typed u) = some m) (a b : Int) : arithP op (numVa a) (numVa b) (typed s) (typed u) = (match both op a b s u m with | none => (noVa, 11) | some (x, y) => match reckonP op x y with | none => (noVa, 11) | some n => (numVa n, 0)) := by
  unfold arithP
  rw [hm]
  simp only [fits_typed h0 h9, fits_typed k0 k9, scale_typed, Bool.not_true, Bool.or_self, Bool.false_eq_true, if_false]
  rw [if_neg (by simp [numVa])]
  rfl
theorem reckon43 (x y : Int) : reckonP 43 x y = if fits (x + y) then some (x + y) else none := by unfold reckonP; rw [if_pos (by decide)]
theorem reckon45 (x y : Int) : reckonP 45 x y = if fits (x - y) then some (x - y) else none := by unfold reckonP; rw [if_neg (by decide), if_pos (by decide)]
theorem reckon42 (x y : Int) : reckonP 42 x y = if fits (x * y) then some (x * y) else none := by unfold reckonP; rw [if_neg (by decide), if_neg (by decide), if_pos (by decide)]
theorem both43 (x y sa sb s : Int) : both 43 x y sa sb s = if (scaleP x sa s).2 = 0 ∧ (scaleP y sb s).2 = 0 then some ((scaleP x sa s).1, (scaleP y sb s).1) else none := if_pos (by decide)
theorem both45 (x y sa sb s : Int) : both 45 x y sa sb s = if (scaleP x sa s).2 = 0 ∧ (scaleP y sb s).2 = 0 then some ((scaleP x sa s).1, (scaleP y sb s).1) else none := if_pos (by decide)
theorem both42 (x y sa sb s : Int) : both 42 x y sa sb s = some (x, y) := if_neg (by decide)
theorem turn_add {s u : Int} (h0 : 0 ≤ s) (h9 : s ≤ 9) (k0 : 0 ≤ u) (k9 : u ≤ 9) (a b : Int) : arithP 43 (numVa a) (numVa b) (typed s) (typed u) = arithP 43 (numVa b) (numVa a) (typed u) (typed s) := by
  rw [arith_typed 43 h0 h9 k0 k9 (m := max s u) (by rw [aty_typed 43 h0 h9 k0 k9]; rfl), arith_typed 43 k0 k9 h0 h9 (m := max s u) (by rw [aty_typed 43 k0 k9 h0 h9, Int.max_comm s u]; rfl), both43, both43]
  by_cases h1 : (scaleP a s (max s u)).2 = 0
  · by_cases h2 : (scaleP b u (max s u)).2 = 0
    · rw [if_pos ⟨h1, h2⟩, if_pos ⟨h2, h1⟩]
      simp only [reckon43]
      rw [Int.add_comm]
    · rw [if_neg (fun h => h2 h.2), if_neg (fun h => h2 h.1)]
  · rw [if_neg (fun h => h1 h.1), if_neg (fun h => h1 h.2)]
theorem turn_mul {s u : Int} (h0 : 0 ≤ s) (h9 : s ≤ 9) (k0 : 0 ≤ u) (k9 : u ≤ 9) (a b : Int) : arithP 42 (numVa a) (numVa b) (typed s) (typed u) = arithP 42 (numVa b) (numVa a) (typed u) (typed s) := by
  by_cases h : s + u ≤ 9
  · rw [arith_typed 42 h0 h9 k0 k9 (m := s + u) (by rw [aty_typed 42 h0 h9 k0 k9]; simp only [show ((42 : UInt8) == 43 || (42 : UInt8) == 45) = false from rfl, show ((42 : UInt8) == 42) = true from rfl, if_true, Bool.false_eq_true, if_false]; rw [if_pos h]), arith_typed 42 k0 k9 h0 h9 (m := u + s) (by rw [aty_typed 42 k0 k9 h0 h9]; simp only [show ((42 : UInt8) == 43 || (42 : UInt8) == 45) = false from rfl, show ((42 : UInt8) == 42) = true from rfl, if_true, Bool.false_eq_true, if_false]; rw [if_pos (by omega)]), both42, both42]
    simp only [reckon42]
    rw [Int.mul_comm]
  · have e1 : arithTy 42 (typed s) (typed u) = none := by
      rw [aty_typed 42 h0 h9 k0 k9]; simp only [show ((42 : UInt8) == 43 || (42 : UInt8) == 45) = false from rfl, show ((42 : UInt8) == 42) = true from rfl, if_true, Bool.false_eq_true, if_false]; rw [if_neg h]
    have e2 : arithTy 42 (typed u) (typed s) = none := by
      rw [aty_typed 42 k0 k9 h0 h9]; simp only [show ((42 : UInt8) == 43 || (42 : UInt8) == 45) = false from rfl, show ((42 : UInt8) == 42) = true from rfl, if_true, Bool.false_eq_true, if_false]; rw [if_neg (by omega)]
    unfold arithP
    rw [e1, e2]
/-- a sum that has room, or none; what is taken away again -/
theorem sum_back {s u : Int} (h0 : 0 ≤ s) (h9 : s ≤ 9) (k0 : 0 ≤ u) (k9 : u ≤ 9) (a b : Int) : arithP 43 (numVa a) (numVa b) (typed s) (typed u) = (noVa, 11) ∨
    ∃ p c : Int, I64 p ∧ I64 c ∧ arithP 43 (numVa a) (numVa b) (typed s) (typed u) = (numVa p, 0) ∧ arithP 45 (numVa p) (numVa b) (typed (max s u)) (typed u) = (numVa c, 0) ∧ cmpP (numVa c) (numVa a) (typed (max s u)) (typed s) = some 0 := by
  have hm0 : 0 ≤ max s u := by omega
  have hm9 : max s u ≤ 9 := by omega
  rw [arith_typed 43 h0 h9 k0 k9 (m := max s u) (by rw [aty_typed 43 h0 h9 k0 k9]; rfl), both43, scale_in h0 (Int.le_max_left _ _) hm9, scale_in k0 (Int.le_max_right _ _) hm9]
  cases f1 : fits (a * ten (max s u - s).toNat)
  · left; rfl
  cases f2 : fits (b * ten (max s u - u).toNat)
  · left; rfl
  cases f3 : fits (a * ten (max s u - s).toNat + b * ten (max s u - u).toNat)
  · left
    simp only [if_true, and_self, reckon43, f3, Bool.false_eq_true, if_false]
  · right
    refine ⟨a * ten (max s u - s).toNat + b * ten (max s u - u).toNat, a * ten (max s u - s).toNat, fits_iff.1 f3, fits_iff.1 f1, ?_, ?_, ?_⟩
    · simp only [if_true, and_self, reckon43, f3]
    · rw [arith_typed 45 hm0 hm9 k0 k9 (m := max s u) (by rw [aty_typed 45 hm0 hm9 k0 k9, Int.max_eq_left (Int.le_max_right s u)]; rfl), both45, scale_in hm0 (Int.le_refl _) hm9, scale_in k0 (Int.le_max_right _ _) hm9]
      have t0 : ten (max s u - max s u).toNat = 1 := by rw [Int.sub_self]; rfl
      rw [t0, Int.mul_one, f3, f2]
      simp only [if_true, and_self, reckon45]
      rw [Int.add_sub_cancel, f1]
      rfl
    · rw [cmp_typed hm0 hm9 h0 h9, ten_join a (show (max s u - s).toNat + (9 - max s u).toNat = (9 - s).toNat by omega), cmpI_self]
/-! orders -/
theorem cmpI_zero (x y : Int) : cmpI x y = 0 ↔ x = y := by
  unfold cmpI
  split
  · exact ⟨fun h => by omega, fun h => by omega⟩
  · split
    · exact ⟨fun _ => by assumption, fun _ => rfl⟩
    · exact ⟨fun h => by omega, fun h => by omega⟩
theorem cmpI_le (x y : Int) : cmpI x y ≤ 0 ↔ x ≤ y := by
  unfold cmpI
  split
  · exact ⟨fun h => by omega, fun h => by omega⟩
  · split
    · exact ⟨fun h => by omega, fun h => by omega⟩
    · exact ⟨fun h => by omega, fun h => by omega⟩
/-- the values of a type: nothing, numbers, or bytes -/
def OfTy (x : Va) (t : Ty) : Prop := x = nullVa ∨ (x.null = false ∧ fitsB t false x = true ∧ ((numB t = true ∧ x.s = ⟨#[]⟩) ∨ (numB t = false ∧ x.n = 0)))
def keyP (x y : Va) (t : Ty) : Int := if numB t then cmpI x.n y.n else cmpS x.s.data.toList y.s.data.toList
theorem cmpI_mul (a b k : Int) (hk : 0 < k) : cmpI (a * k) (b * k) = cmpI a b := by
  have h1 : a * k < b * k ↔ a < b := Int.mul_lt_mul_right hk
  have h2 : a * k = b * k ↔ a = b := Int.mul_eq_mul_right_iff (by omega)
  unfold cmpI
  by_cases h : a < b
  · rw [if_pos h, if_pos (h1.2 h)]
  · rw [if_neg h, if_neg (fun k => h (h1.1 k))]
    by_cases h3 : a = b
    · rw [if_pos h3, if_pos (h2.2 h3)]
    · rw [if_neg h3, if_neg (fun k => h3 (h2.1 k))]
theorem order_key {x y : Va} {t : Ty} (hx : x.null = false ∧ fitsB t false x = true ∧ ((numB t = true ∧ x.s = ⟨#[]⟩) ∨ (numB t = false ∧ x.n = 0))) (hy : y.null = false ∧ fitsB t false y = true ∧ ((numB t = true ∧ y.s = ⟨#[]⟩) ∨ (numB t = false ∧ y.n = 0))) : orderP x y t = keyP x y t := by
  obtain ⟨x0, x1, x2⟩ := hx
  obtain ⟨y0, y1, y2⟩ := hy
  unfold orderP
  rw [x0, y0]
  simp only [Bool.and_self, Bool.false_eq_true, if_false]
  unfold cmpP keyP
  rw [x1, y1]
  cases hb : numB t
  · rcases x2 with ⟨h, _⟩ | ⟨_, x2⟩
    · rw [hb] at h; cases h
    rcases y2 with ⟨h, _⟩ | ⟨_, y2⟩
    · rw [hb] at h; cases h
    rw [x2, y2, cmpI_self]
    by_cases h : cmpS x.s.data.toList y.s.data.toList = 0
    · simp [h, cmpOut, cmpI_self]
    · simp [h, cmpOut]
  · simp only [Bool.not_true, Bool.or_self, Bool.false_eq_true, if_false, Bool.and_self, if_true, cmpOut]
    exact cmpI_mul _ _ _ (ten_pos _)
theorem va_eq {x y : Va} (h1 : x.null = y.null) (h2 : x.n = y.n) (h3 : x.s = y.s) : x = y := by
  cases x; cases y; simp at h1 h2 h3; rw [h1, h2, h3]
theorem ba_eq {a b : ByteArray} (h : a.data.toList = b.data.toList) : a = b := by
  cases a; cases b; simp at h; rw [h]
theorem order_laws {x y z : Va} {t : Ty} (hx : OfTy x t) (hy : OfTy y t) (hz : OfTy z t) :
    orderP x y t = -orderP y x t ∧ (0 < orderP x y t ∨ 0 < orderP y z t ∨ orderP x z t ≤ 0) ∧ (orderP x y t = 0 ↔ x = y) ∧ (x.null = true → orderP x y t ≤ 0) ∧ orderP x x t = 0 := by
  have n1 : ∀ {y : Va}, y.null = false → orderP nullVa y t = -1 := fun h => by unfold orderP; rw [h]; rfl
  have n2 : ∀ {y : Va}, y.null = false → orderP y nullVa t = 1 := fun h => by unfold orderP; rw [h]; rfl
  have n3 : orderP nullVa nullVa t = 0 := rfl
  have kt : ∀ a b, keyP a b t = -keyP b a t := fun a b => by
    unfold keyP; split
    · exact cmpI_turn _ _
    · exact cmpS_turn _ _
  have ks : ∀ a, keyP a a t = 0 := fun a => by
    unfold keyP; split
    · exact cmpI_self _
    · exact cmpS_self _
  have kr : ∀ a b c, keyP a b t ≤ 0 → keyP b c t ≤ 0 → keyP a c t ≤ 0 := fun a b c => by
    unfold keyP; split
    · rw [cmpI_le, cmpI_le, cmpI_le]; omega
    · exact cmpS_trans
  rcases hx with rfl | hx
  · rcases hy with rfl | hy
    · rcases hz with rfl | hz
      · rw [n3]; exact ⟨rfl, .inr (.inr (by decide)), ⟨fun _ => rfl, fun _ => rfl⟩, fun _ => by decide, rfl⟩
      · rw [n3, n1 hz.1]; exact ⟨rfl, .inr (.inr (by decide)), ⟨fun _ => rfl, fun _ => rfl⟩, fun _ => by decide, rfl⟩
    · refine ⟨by rw [n1 hy.1, n2 hy.1], ?_, ⟨fun h => by rw [n1 hy.1] at h; omega, fun h => by rw [← h] at hy; cases hy.1⟩, fun _ => by rw [n1 hy.1]; decide, n3⟩
      rcases hz with rfl | hz
      · rw [n3]; exact .inr (.inr (by decide))
      · rw [n1 hz.1]; exact .inr (.inr (by decide))
  · rcases hy with rfl | hy
    · refine ⟨by rw [n1 hx.1, n2 hx.1]; rfl, .inl (by rw [n2 hx.1]; decide), ⟨fun h => by rw [n2 hx.1] at h; omega, fun h => by rw [h] at hx; cases hx.1⟩, fun h => (by rw [hx.1] at h; cases h), by rw [order_key hx hx, ks]⟩
    · rw [order_key hx hy, order_key hy hx, order_key hx hx]
      refine ⟨kt _ _, ?_, ?_, fun h => (by rw [hx.1] at h; cases h), ks _⟩
      · rcases hz with rfl | hz
        · right; left; rw [n2 hy.1]; decide
        · rw [order_key hy hz, order_key hx hz]
          have := kr x y z
          omega
      · refine ⟨fun h => ?_, fun h => by rw [h, ks]⟩
        unfold keyP at h
        obtain ⟨x0, _, x2⟩ := hx
        obtain ⟨y0, _, y2⟩ := hy
        cases hb : numB t
        · rw [hb] at h x2 y2
          simp only [Bool.false_eq_true, false_and, false_or, true_and, if_false] at h x2 y2
          exact va_eq (by rw [x0, y0]) (by rw [x2, y2]) (ba_eq ((cmpS_zero _ _).1 h))
        · rw [hb] at h x2 y2
          simp only [Bool.true_eq_false, true_and, false_and, or_false, if_true] at h x2 y2
          exact va_eq (by rw [x0, y0]) ((cmpI_zero _ _).1 h) (by rw [x2, y2])
theorem ofTy_null (t : Ty) : OfTy nullVa t := .inl rfl
theorem ofTy_num {s : Int} (h0 : 0 ≤ s) (h9 : s ≤ 9) (n : Int) : OfTy (numVa n) (typed s) := .inr ⟨rfl, fits_typed h0 h9 _ _, .inl ⟨numB_typed h0 h9, rfl⟩⟩
theorem ofTy_bytes (S : ByteArray) (h : S.size ≤ 200) : OfTy ⟨false, 0, S⟩ ⟨3, 0⟩ := by
  refine .inr ⟨rfl, ?_, .inr ⟨rfl, rfl⟩⟩
  unfold fitsB
  simp [tyB, h]
/-! texts -/
theorem text_typed {s : Int} (h0 : 0 ≤ s) (h9 : s ≤ 9) (a : Int) : textP (numVa a) (typed s) = some (decT a s.toNat) := by
  unfold textP
  rw [fits_typed h0 h9, scale_typed]
  rcases (show s = 0 ∨ s = 1 ∨ s = 2 ∨ s = 3 ∨ s = 4 ∨ s = 5 ∨ s = 6 ∨ s = 7 ∨ s = 8 ∨ s = 9 by omega) with rfl | rfl | rfl | rfl | rfl | rfl | rfl | rfl | rfl | rfl <;> rfl
theorem text_quote (S : ByteArray) (h : S.size ≤ 200) : textP ⟨false, 0, S⟩ ⟨3, 0⟩ = some (39 :: (quoteL S.data.toList ++ [39])) := by
  unfold textP
  have : fitsB ⟨3, 0⟩ true ⟨false, 0, S⟩ = true := by
    unfold fitsB
    simp [tyB, h]
  rw [this]
  rfl
theorem quote_iff (a b : List UInt8) : (39 :: (quoteL a ++ [39]) = 39 :: (quoteL b ++ [39])) ↔ a = b := by
  refine ⟨fun h => quote_inj a b (List.cons.inj h).2, fun h => by rw [h]⟩
end Go.Proofs.YtafnjkeljjeamaaDoor.Val
