/-
  The walk of NumAdds: it answers true. No condition beyond what the theorem names.
-/
import Derived.Test.YtebikmnegemggaaDoorNumDivVals
import Derived.Test.YtebikmnegemggaaDoorNumBitsPlain
namespace Go.Proofs.YtebikmnegemggaaDoor.Num
open Go.RowKit
set_option linter.unusedVariables false

theorem d32_1 (a : Nat) (ha : a < 4294967296) : (twoA 109 a 1).1 = (a : Int) := by
  have e : wrap32 ((1 : Nat) : Int) = 1 := by unfold wrap32; omega
  rw [sq32 a 1 ha (by decide) (by decide) (by rw [e]; omega), e, Int.tdiv_one]
  show wrap32 (a : Int) % 4294967296 = _
  unfold wrap32
  omega
theorem d64_1 (a : Nat) (ha : a < 18446744073709551616) : (twoA 127 a 1).1 = (a : Int) := by
  have e : wrap64 ((1 : Nat) : Int) = 1 := by unfold wrap64; omega
  rw [sq64 a 1 ha (by decide) (by decide) (by rw [e]; omega), e, Int.tdiv_one]
  show IntKind.u64.wrap (wrap64 (a : Int)) = _
  rw [IntKind.wrap_u64]
  unfold wrap64
  omega
theorem u32_1 (a : Nat) (ha : a < 4294967296) : (twoA 110 a 1).1 = (a : Int) := by
  rw [uq32 a 1 ha (by decide) (by decide), Nat.div_one]
theorem u64_1 (a : Nat) (ha : a < 18446744073709551616) : (twoA 128 a 1).1 = (a : Int) := by
  rw [uq64 a 1 ha (by decide) (by decide), Nat.div_one]

set_option maxRecDepth 100000 in
set_option maxHeartbeats 1000000 in
theorem adds_n (x y a b : Nat) (w : World) (hx : x < 18446744073709551616) (hy : y < 18446744073709551616) (hxa : x % 4294967296 = a) (hyb : y % 4294967296 = b) :
    Calls Tryd.prog 10 #[.int .u64 x, .int .u64 y, .bool true] w fun e w' => e = .returned (.bool true) ∧ Below w.heap.size w w' := by
  have ha : a < 4294967296 := by omega
  have hb : b < 4294967296 := by omega
  have ex : (x : Int) % 4294967296 = (a : Int) := by omega
  have ey : (y : Int) % 4294967296 = (b : Int) := by omega
  clear hxa hyb hx hy
  obtain ⟨S, hS⟩ : ∃ S, (a + b) % 4294967296 = S := ⟨_, rfl⟩
  have hS2 : S < 4294967296 := by omega
  obtain ⟨X, hX⟩ : ∃ X, a ^^^ b = X := ⟨_, rfl⟩
  have hX2 : X < 4294967296 := by rw [← hX]; exact Nat.xor_lt_two_pow (n := 32) ha hb
  obtain ⟨C, hC⟩ : ∃ C, a &&& b = C := ⟨_, rfl⟩
  obtain ⟨D, hD⟩ : ∃ D, a ||| b = D := ⟨_, rfl⟩
  have hCD : C + D = a + b := by rw [← hC, ← hD]; exact and_add_or 32 a b ha hb
  have E0 := Lib.hid (show (twoA 106 a b).1 = (S : Int) by rw [v32_add _ _ ha hb, hS])
  have E1 := Lib.hid (show (twoA 107 S b).1 = (a : Int) by rw [v32_sub _ _ hS2 hb]; omega)
  have E2 := Lib.hid (show (twoA 107 a a).1 = 0 by rw [v32_sub _ _ ha ha]; omega)
  have E3 := Lib.hid (show (twoA 115 a b).1 = (X : Int) by rw [v32_xor _ _ ha hb, hX])
  have E4 := Lib.hid (show (twoA 115 X b).1 = (a : Int) by rw [v32_xor _ _ hX2 hb, ← hX, Nat.xor_assoc, Nat.xor_self, Nat.xor_zero])
  have E5 := Lib.hid (show (twoA 108 a 1).1 = (a : Int) by rw [v32_mul _ _ ha (by decide), Nat.mul_one, Nat.mod_eq_of_lt ha])
  have E6 := Lib.hid (d32_1 a ha)
  have E7 := Lib.hid (u32_1 a ha)
  have E8 := Lib.hid (show (twoA 106 b a).1 = (S : Int) by rw [v32_add _ _ hb ha, Nat.add_comm, hS])
  have E9 := Lib.hid (show (twoA 113 a b).1 = (C : Int) by rw [v32_and _ _ ha hb, hC])
  have E10 := Lib.hid (show (twoA 114 a b).1 = (D : Int) by rw [v32_or _ _ ha hb, hD])
  obtain ⟨T, hT⟩ : ∃ T, IntKind.u64.wrap ((a : Int) + b) = T := ⟨_, rfl⟩
  have hT2 : IntKind.u64.wrap ((C : Int) + D) = T := by rw [← hT]; congr 1; omega
  have HA := Lib.hid ha
  have HB := Lib.hid hb
  have HS := Lib.hid hS2
  have HX := Lib.hid hX2
  clear ha hb hS2 hX2 hS hX hC hD hCD
  go_enter Tryd.func10, Tryd.ntmps10
  go_wp2_with fail
  refine (examples_any _).mono ?_
  rintro e w0 ⟨rfl, b0⟩
  go_wp2_with fail
  refine (law_two 106 a b _ (by have := HA.out; have := HB.out; have := HS.out; have := HX.out; omega) (by have := HA.out; have := HB.out; have := HS.out; have := HX.out; omega) (by decide)).mono ?_
  rintro e w1 ⟨rfl, c1⟩
  have b1 := b0.trans (c1.mono b0.size)
  rw [E0.out]
  go_wp2_with fail
  refine (law_two 107 S b _ (by have := HA.out; have := HB.out; have := HS.out; have := HX.out; omega) (by have := HA.out; have := HB.out; have := HS.out; have := HX.out; omega) (by decide)).mono ?_
  rintro e w2 ⟨rfl, c2⟩
  have b2 := b1.trans (c2.mono b1.size)
  rw [E1.out]
  go_wp2_with fail
  refine (law_two 107 a a _ (by have := HA.out; have := HB.out; have := HS.out; have := HX.out; omega) (by have := HA.out; have := HB.out; have := HS.out; have := HX.out; omega) (by decide)).mono ?_
  rintro e w3 ⟨rfl, c3⟩
  have b3 := b2.trans (c3.mono b2.size)
  rw [E2.out]
  go_wp2_with fail
  refine (law_two 115 a b _ (by have := HA.out; have := HB.out; have := HS.out; have := HX.out; omega) (by have := HA.out; have := HB.out; have := HS.out; have := HX.out; omega) (by decide)).mono ?_
  rintro e w4 ⟨rfl, c4⟩
  have b4 := b3.trans (c4.mono b3.size)
  rw [E3.out]
  go_wp2_with fail
  refine (law_two 115 X b _ (by have := HA.out; have := HB.out; have := HS.out; have := HX.out; omega) (by have := HA.out; have := HB.out; have := HS.out; have := HX.out; omega) (by decide)).mono ?_
  rintro e w5 ⟨rfl, c5⟩
  have b5 := b4.trans (c5.mono b4.size)
  rw [E4.out]
  go_wp2_with fail
  refine (law_two 108 a 1 _ (by have := HA.out; have := HB.out; have := HS.out; have := HX.out; omega) (by have := HA.out; have := HB.out; have := HS.out; have := HX.out; omega) (by decide)).mono ?_
  rintro e w6 ⟨rfl, c6⟩
  have b6 := b5.trans (c6.mono b5.size)
  rw [E5.out]
  go_wp2_with fail
  refine (law_two 109 a 1 _ (by have := HA.out; have := HB.out; have := HS.out; have := HX.out; omega) (by have := HA.out; have := HB.out; have := HS.out; have := HX.out; omega) (by decide)).mono ?_
  rintro e w7 ⟨rfl, c7⟩
  have b7 := b6.trans (c7.mono b6.size)
  rw [E6.out]
  go_wp2_with fail
  refine (law_two 110 a 1 _ (by have := HA.out; have := HB.out; have := HS.out; have := HX.out; omega) (by have := HA.out; have := HB.out; have := HS.out; have := HX.out; omega) (by decide)).mono ?_
  rintro e w8 ⟨rfl, c8⟩
  have b8 := b7.trans (c8.mono b7.size)
  rw [E7.out]
  go_wp2_with fail
  refine (law_two 106 a b _ (by have := HA.out; have := HB.out; have := HS.out; have := HX.out; omega) (by have := HA.out; have := HB.out; have := HS.out; have := HX.out; omega) (by decide)).mono ?_
  rintro e w9 ⟨rfl, c9⟩
  have b9 := b8.trans (c9.mono b8.size)
  rw [E0.out]
  go_wp2_with fail
  refine (law_two 106 b a _ (by have := HA.out; have := HB.out; have := HS.out; have := HX.out; omega) (by have := HA.out; have := HB.out; have := HS.out; have := HX.out; omega) (by decide)).mono ?_
  rintro e w10 ⟨rfl, c10⟩
  have b10 := b9.trans (c10.mono b9.size)
  rw [E8.out]
  go_wp2_with fail
  refine (law_two 113 a b _ (by have := HA.out; have := HB.out; have := HS.out; have := HX.out; omega) (by have := HA.out; have := HB.out; have := HS.out; have := HX.out; omega) (by decide)).mono ?_
  rintro e w11 ⟨rfl, c11⟩
  have b11 := b10.trans (c11.mono b10.size)
  rw [E9.out]
  go_wp2_with fail
  refine (law_two 114 a b _ (by have := HA.out; have := HB.out; have := HS.out; have := HX.out; omega) (by have := HA.out; have := HB.out; have := HS.out; have := HX.out; omega) (by decide)).mono ?_
  rintro e w12 ⟨rfl, c12⟩
  have b12 := b11.trans (c12.mono b11.size)
  rw [E10.out]
  go_wp2_with fail
  go_ret
  exact ⟨rfl, b12⟩

set_option maxRecDepth 100000 in
set_option maxHeartbeats 1000000 in
theorem adds_w (x y a b : Nat) (w : World) (hx : x < 18446744073709551616) (hy : y < 18446744073709551616) (hxa : x = a) (hyb : y = b) :
    Calls Tryd.prog 10 #[.int .u64 x, .int .u64 y, .bool false] w fun e w' => e = .returned (.bool true) ∧ Below w.heap.size w w' := by
  have ha : a < 18446744073709551616 := by omega
  have hb : b < 18446744073709551616 := by omega
  subst hxa
  subst hyb
  clear hx hy
  obtain ⟨S, hS⟩ : ∃ S, (x + y) % 18446744073709551616 = S := ⟨_, rfl⟩
  have hS2 : S < 18446744073709551616 := by omega
  obtain ⟨X, hX⟩ : ∃ X, x ^^^ y = X := ⟨_, rfl⟩
  have hX2 : X < 18446744073709551616 := by rw [← hX]; exact Nat.xor_lt_two_pow (n := 64) ha hb
  obtain ⟨C, hC⟩ : ∃ C, x &&& y = C := ⟨_, rfl⟩
  obtain ⟨D, hD⟩ : ∃ D, x ||| y = D := ⟨_, rfl⟩
  have hCD : C + D = x + y := by rw [← hC, ← hD]; exact and_add_or 64 x y ha hb
  have E0 := Lib.hid (show (twoA 124 x y).1 = (S : Int) by rw [v64_add _ _ ha hb, hS])
  have E1 := Lib.hid (show (twoA 125 S y).1 = (x : Int) by rw [v64_sub _ _ hS2 hb]; omega)
  have E2 := Lib.hid (show (twoA 125 x x).1 = 0 by rw [v64_sub _ _ ha ha]; omega)
  have E3 := Lib.hid (show (twoA 133 x y).1 = (X : Int) by rw [v64_xor _ _ ha hb, hX])
  have E4 := Lib.hid (show (twoA 133 X y).1 = (x : Int) by rw [v64_xor _ _ hX2 hb, ← hX, Nat.xor_assoc, Nat.xor_self, Nat.xor_zero])
  have E5 := Lib.hid (show (twoA 126 x 1).1 = (x : Int) by rw [v64_mul _ _ ha (by decide), Nat.mul_one, Nat.mod_eq_of_lt ha])
  have E6 := Lib.hid (d64_1 x ha)
  have E7 := Lib.hid (u64_1 x ha)
  have E8 := Lib.hid (show (twoA 124 y x).1 = (S : Int) by rw [v64_add _ _ hb ha, Nat.add_comm, hS])
  have E9 := Lib.hid (show (twoA 131 x y).1 = (C : Int) by rw [v64_and _ _ ha hb, hC])
  have E10 := Lib.hid (show (twoA 132 x y).1 = (D : Int) by rw [v64_or _ _ ha hb, hD])
  obtain ⟨T, hT⟩ : ∃ T, IntKind.u64.wrap ((x : Int) + y) = T := ⟨_, rfl⟩
  have hT2 : IntKind.u64.wrap ((C : Int) + D) = T := by rw [← hT]; congr 1; omega
  have HA := Lib.hid ha
  have HB := Lib.hid hb
  have HS := Lib.hid hS2
  have HX := Lib.hid hX2
  clear ha hb hS2 hX2 hS hX hC hD hCD
  go_enter Tryd.func10, Tryd.ntmps10
  go_wp2_with fail
  refine (examples_any _).mono ?_
  rintro e w0 ⟨rfl, b0⟩
  go_wp2_with fail
  refine (law_two 124 x y _ (by have := HA.out; have := HB.out; have := HS.out; have := HX.out; omega) (by have := HA.out; have := HB.out; have := HS.out; have := HX.out; omega) (by decide)).mono ?_
  rintro e w1 ⟨rfl, c1⟩
  have b1 := b0.trans (c1.mono b0.size)
  rw [E0.out]
  go_wp2_with fail
  refine (law_two 125 S y _ (by have := HA.out; have := HB.out; have := HS.out; have := HX.out; omega) (by have := HA.out; have := HB.out; have := HS.out; have := HX.out; omega) (by decide)).mono ?_
  rintro e w2 ⟨rfl, c2⟩
  have b2 := b1.trans (c2.mono b1.size)
  rw [E1.out]
  go_wp2_with fail
  refine (law_two 125 x x _ (by have := HA.out; have := HB.out; have := HS.out; have := HX.out; omega) (by have := HA.out; have := HB.out; have := HS.out; have := HX.out; omega) (by decide)).mono ?_
  rintro e w3 ⟨rfl, c3⟩
  have b3 := b2.trans (c3.mono b2.size)
  rw [E2.out]
  go_wp2_with fail
  refine (law_two 133 x y _ (by have := HA.out; have := HB.out; have := HS.out; have := HX.out; omega) (by have := HA.out; have := HB.out; have := HS.out; have := HX.out; omega) (by decide)).mono ?_
  rintro e w4 ⟨rfl, c4⟩
  have b4 := b3.trans (c4.mono b3.size)
  rw [E3.out]
  go_wp2_with fail
  refine (law_two 133 X y _ (by have := HA.out; have := HB.out; have := HS.out; have := HX.out; omega) (by have := HA.out; have := HB.out; have := HS.out; have := HX.out; omega) (by decide)).mono ?_
  rintro e w5 ⟨rfl, c5⟩
  have b5 := b4.trans (c5.mono b4.size)
  rw [E4.out]
  go_wp2_with fail
  refine (law_two 126 x 1 _ (by have := HA.out; have := HB.out; have := HS.out; have := HX.out; omega) (by have := HA.out; have := HB.out; have := HS.out; have := HX.out; omega) (by decide)).mono ?_
  rintro e w6 ⟨rfl, c6⟩
  have b6 := b5.trans (c6.mono b5.size)
  rw [E5.out]
  go_wp2_with fail
  refine (law_two 127 x 1 _ (by have := HA.out; have := HB.out; have := HS.out; have := HX.out; omega) (by have := HA.out; have := HB.out; have := HS.out; have := HX.out; omega) (by decide)).mono ?_
  rintro e w7 ⟨rfl, c7⟩
  have b7 := b6.trans (c7.mono b6.size)
  rw [E6.out]
  go_wp2_with fail
  refine (law_two 128 x 1 _ (by have := HA.out; have := HB.out; have := HS.out; have := HX.out; omega) (by have := HA.out; have := HB.out; have := HS.out; have := HX.out; omega) (by decide)).mono ?_
  rintro e w8 ⟨rfl, c8⟩
  have b8 := b7.trans (c8.mono b7.size)
  rw [E7.out]
  go_wp2_with fail
  refine (law_two 124 x y _ (by have := HA.out; have := HB.out; have := HS.out; have := HX.out; omega) (by have := HA.out; have := HB.out; have := HS.out; have := HX.out; omega) (by decide)).mono ?_
  rintro e w9 ⟨rfl, c9⟩
  have b9 := b8.trans (c9.mono b8.size)
  rw [E0.out]
  go_wp2_with fail
  refine (law_two 124 y x _ (by have := HA.out; have := HB.out; have := HS.out; have := HX.out; omega) (by have := HA.out; have := HB.out; have := HS.out; have := HX.out; omega) (by decide)).mono ?_
  rintro e w10 ⟨rfl, c10⟩
  have b10 := b9.trans (c10.mono b9.size)
  rw [E8.out]
  go_wp2_with fail
  refine (law_two 131 x y _ (by have := HA.out; have := HB.out; have := HS.out; have := HX.out; omega) (by have := HA.out; have := HB.out; have := HS.out; have := HX.out; omega) (by decide)).mono ?_
  rintro e w11 ⟨rfl, c11⟩
  have b11 := b10.trans (c11.mono b10.size)
  rw [E9.out]
  go_wp2_with fail
  refine (law_two 132 x y _ (by have := HA.out; have := HB.out; have := HS.out; have := HX.out; omega) (by have := HA.out; have := HB.out; have := HS.out; have := HX.out; omega) (by decide)).mono ?_
  rintro e w12 ⟨rfl, c12⟩
  have b12 := b11.trans (c12.mono b11.size)
  rw [E10.out]
  go_wp2_with fail
  go_ret
  exact ⟨rfl, b12⟩

theorem adds_walk (x y : Nat) (narrow : Bool) (w : World) (hx : x < 18446744073709551616) (hy : y < 18446744073709551616) :
    Calls Tryd.prog 10 #[.int .u64 x, .int .u64 y, .bool narrow] w fun e w' => e = .returned (.bool true) ∧ Below w.heap.size w w' := by
  cases narrow
  · exact adds_w x y x y w hx hy rfl rfl
  · exact adds_n x y _ _ w hx hy rfl rfl
end Go.Proofs.YtebikmnegemggaaDoor.Num
