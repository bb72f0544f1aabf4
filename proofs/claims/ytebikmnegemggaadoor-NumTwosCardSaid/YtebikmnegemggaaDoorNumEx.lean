/-
  The chapter's examples hold: what 'examples' of the statements of chapter 2 answers; what Two answers at the codes of a group. No condition beyond what each theorem names.
-/
import Derived.Test.YtebikmnegemggaaDoorNumTwo
import Derived.Test.YtebikmnegemggaaDoorNumOne
namespace Go.Proofs.YtebikmnegemggaaDoor.Num
open Go.RowKit Go.Maps
set_option linter.unusedVariables false

theorem twoA_t32 (k : Nat) (a b : Nat) (hk : k < 10) (op : Int) (h : op = 70 + (k : Int)) : twoA op a b = (truthA (testB k (ord (wrap32 ((a % 4294967296 : Nat) : Int)) (wrap32 ((b % 4294967296 : Nat) : Int))) (ord ((a % 4294967296 : Nat) : Int) ((b % 4294967296 : Nat) : Int))), 0) := by
  subst h
  unfold twoA
  rw [if_pos (by omega), show (70 + (k : Int) - 70).toNat = k by omega]
theorem twoA_t64 (k : Nat) (a b : Nat) (hk : k < 10) (op : Int) (h : op = 81 + (k : Int)) : twoA op a b = (truthA (testB k (ord (wrap64 (a : Int)) (wrap64 (b : Int))) (ord (a : Int) (b : Int))), 0) := by
  subst h
  unfold twoA
  rw [if_neg (by omega), if_pos (by omega), show (81 + (k : Int) - 81).toNat = k by omega]
theorem twoA_r32 (k : Nat) (a b : Nat) (hk : k < 15) (op : Int) (h : op = 106 + (k : Int)) : twoA op a b = r32 k (a % 4294967296) (b % 4294967296) := by
  subst h
  unfold twoA
  rw [if_neg (by omega), if_neg (by omega), if_pos (by omega), show (106 + (k : Int) - 106).toNat = k by omega]
theorem twoA_r64 (k : Nat) (a b : Nat) (hk : k < 15) (op : Int) (h : op = 124 + (k : Int)) : twoA op a b = r64 k a b := by
  subst h
  unfold twoA
  rw [if_neg (by omega), if_neg (by omega), if_neg (by omega), if_pos (by omega), show (124 + (k : Int) - 124).toNat = k by omega]

theorem ex1 : twoA 106 4294967295 1 = (0, 0) := by
  rw [twoA_r32 0 _ _ (by decide) _ (by decide), r32_p 0 _ _ (by decide) (by decide) (by decide) (by decide)]
  decide
theorem ex2 : twoA 109 5 0 = (0, 6) := by
  rw [twoA_r32 3 _ _ (by decide) _ (by decide), r32_3]
  have e : divA (-2147483648) (wrap32 ((5 % 4294967296 : Nat) : Int)) (wrap32 ((0 % 4294967296 : Nat) : Int)) false = (0, false) := by
    unfold divA
    rw [if_pos (.inl (by unfold wrap32; omega))]
  rw [e]
  rfl
theorem ex3 : Maps.has onesD (.int .i64 0) = false := by kernel_rfl

set_option maxRecDepth 100000 in
set_option maxHeartbeats 1000000 in
theorem examples_any (w : World) : Calls Tryd.prog 12 #[] w fun e w' => e = .returned (.bool true) ∧ Below w.heap.size w w' := by
  have H1 := Lib.hid ex1
  have H2 := Lib.hid ex2
  go_enter Tryd.func12, Tryd.ntmps12
  go_wp2_with fail
  refine (two_any 106 4294967295 1 _ (by decide) (by decide) (by decide)).mono ?_
  rintro e w1 ⟨rfl, b1⟩
  rw [H1.out]
  go_wp2_with fail
  refine (two_any 109 5 0 _ (by decide) (by decide) (by decide)).mono ?_
  rintro e w2 ⟨rfl, b2⟩
  rw [H2.out]
  go_wp2_with fail
  refine (one_none 0 0 _ (by decide) ex3).mono ?_
  rintro e w3 ⟨rfl, b3⟩
  go_wp2_with fail
  go_ret
  exact ⟨rfl, (b1.trans (b2.mono b1.size)).trans (b3.mono (Nat.le_trans b1.size b2.size))⟩

theorem law_two (op : Int) (a b : Nat) (w : World) (ha : a < 2 ^ 64) (hb : b < 2 ^ 64) (hop : -9223372036854775808 ≤ op ∧ op < 9223372036854775808) :
    Calls Tryd.prog 18 #[.int .i64 op, .int .u64 a, .int .u64 b] w fun e w' => e = .returned (.int .u64 (twoA op a b).1) ∧ Below w.heap.size w w' := by
  have HA := Lib.hid ha
  have HB := Lib.hid hb
  have HO := Lib.hid hop
  clear ha hb hop
  go_enter Tryd.func18, Tryd.ntmps18
  go_wp2_with fail
  refine (two_any op a b _ HA.out HB.out HO.out).mono ?_
  rintro e w1 ⟨rfl, b1⟩
  go_wp2_with fail
  go_ret
  exact ⟨rfl, b1⟩
end Go.Proofs.YtebikmnegemggaaDoor.Num
