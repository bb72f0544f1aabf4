/-
  The walk of NumDivides: it answers true. No condition beyond what the theorem names.
-/
import Derived.Test.YtebikmnegemggaaDoorNumDivVals
namespace Go.Proofs.YtebikmnegemggaaDoor.Num
open Go.RowKit
set_option linter.unusedVariables false

set_option maxRecDepth 100000 in
set_option maxHeartbeats 1000000 in
theorem divides_ns_z (x y a b : Nat) (w : World) (hx : x < 18446744073709551616) (hy : y < 18446744073709551616) (hxa : x % 4294967296 = a) (hyb : y % 4294967296 = b) (h0 : b = 0) :
    Calls Tryd.prog 5 #[.int .u64 x, .int .u64 y, .bool true, .bool true] w fun e w' => e = .returned (.bool true) ∧ Below w.heap.size w w' := by
  have ha : a < 4294967296 := by omega
  have hb : b < 4294967296 := by omega
  have ex : (x : Int) % 4294967296 = (a : Int) := by omega
  have ey : (y : Int) % 4294967296 = (b : Int) := by omega
  clear hxa hyb hx hy
  have hq : ((b : Int) == 0) = true := by simp [h0]
  have E0 := Lib.hid (show twoA 109 a b = (0, 6) by rw [h0]; exact (sz32 a ha).1)
  have E1 := Lib.hid (show twoA 111 a b = (0, 6) by rw [h0]; exact (sz32 a ha).2)
  clear h0
  have HA := Lib.hid ha
  have HB := Lib.hid hb
  clear ha hb
  go_enter Tryd.func5, Tryd.ntmps5
  go_wp2_with fail
  refine (examples_any _).mono ?_
  rintro e w0 ⟨rfl, b0⟩
  go_wp2_with fail
  refine (two_any 109 a b _ (by have := HA.out; have := HB.out; omega) (by have := HA.out; have := HB.out; omega) (by decide)).mono ?_
  rintro e w1 ⟨rfl, c1⟩
  have b1 := b0.trans (c1.mono b0.size)
  rw [E0.out]
  go_wp2_with fail
  refine (two_any 111 a b _ (by have := HA.out; have := HB.out; omega) (by have := HA.out; have := HB.out; omega) (by decide)).mono ?_
  rintro e w2 ⟨rfl, c2⟩
  have b2 := b1.trans (c2.mono b1.size)
  rw [E1.out]
  go_wp2_with fail
  go_ret
  exact ⟨rfl, b2⟩

set_option maxRecDepth 100000 in
set_option maxHeartbeats 1000000 in
theorem divides_ns_l (x y a b : Nat) (w : World) (hx : x < 18446744073709551616) (hy : y < 18446744073709551616) (hxa : x % 4294967296 = a) (hyb : y % 4294967296 = b) (h0 : b ≠ 0) (hx2 : wrap32 (a : Int) = -2147483648) (hl : wrap32 (b : Int) = -1) :
    Calls Tryd.prog 5 #[.int .u64 x, .int .u64 y, .bool true, .bool true] w fun e w' => e = .returned (.bool true) ∧ Below w.heap.size w w' := by
  have ha : a < 4294967296 := by omega
  have hb : b < 4294967296 := by omega
  have ex : (x : Int) % 4294967296 = (a : Int) := by omega
  have ey : (y : Int) % 4294967296 = (b : Int) := by omega
  clear hxa hyb hx hy
  have hq : ((b : Int) == 0) = false := beq_eq_false_iff_ne.2 (by omega)
  have E0 := Lib.hid (sl32 a b ha hb hx2 hl)
  have E1 := Lib.hid (sr132 a b ha hb hl)
  clear h0 hx2 hl
  have HA := Lib.hid ha
  have HB := Lib.hid hb
  clear ha hb
  go_enter Tryd.func5, Tryd.ntmps5
  go_wp2_with fail
  refine (examples_any _).mono ?_
  rintro e w0 ⟨rfl, b0⟩
  go_wp2_with fail
  refine (two_any 109 a b _ (by have := HA.out; have := HB.out; omega) (by have := HA.out; have := HB.out; omega) (by decide)).mono ?_
  rintro e w1 ⟨rfl, c1⟩
  have b1 := b0.trans (c1.mono b0.size)
  rw [E0.out]
  go_wp2_with fail
  refine (two_any 111 a b _ (by have := HA.out; have := HB.out; omega) (by have := HA.out; have := HB.out; omega) (by decide)).mono ?_
  rintro e w2 ⟨rfl, c2⟩
  have b2 := b1.trans (c2.mono b1.size)
  rw [E1.out]
  go_wp2_with fail
  go_ret
  exact ⟨rfl, b2⟩

set_option maxRecDepth 100000 in
set_option maxHeartbeats 1000000 in
theorem divides_ns_m (x y a b : Nat) (w : World) (hx : x < 18446744073709551616) (hy : y < 18446744073709551616) (hxa : x % 4294967296 = a) (hyb : y % 4294967296 = b) (h0 : b ≠ 0) (hl : wrap32 (b : Int) = -1) (hx2 : wrap32 (a : Int) ≠ -2147483648) :
    Calls Tryd.prog 5 #[.int .u64 x, .int .u64 y, .bool true, .bool true] w fun e w' => e = .returned (.bool true) ∧ Below w.heap.size w w' := by
  have ha : a < 4294967296 := by omega
  have hb : b < 4294967296 := by omega
  have ex : (x : Int) % 4294967296 = (a : Int) := by omega
  have ey : (y : Int) % 4294967296 = (b : Int) := by omega
  clear hxa hyb hx hy
  have hq : ((b : Int) == 0) = false := beq_eq_false_iff_ne.2 (by omega)
  obtain ⟨Q, hQ⟩ : ∃ Q : Nat, (Q : Int) = ((wrap32 (a : Int)).tdiv (wrap32 (b : Int))) % 4294967296 := Int.eq_ofNat_of_zero_le (Int.emod_nonneg _ (by decide)) |>.imp fun _ h => h.symm
  obtain ⟨R, hR⟩ : ∃ R : Nat, (R : Int) = ((wrap32 (a : Int)).tmod (wrap32 (b : Int))) % 4294967296 := Int.eq_ofNat_of_zero_le (Int.emod_nonneg _ (by decide)) |>.imp fun _ h => h.symm
  have hQ2 : Q < 4294967296 := Int.ofNat_lt.1 (by rw [hQ]; exact Int.emod_lt_of_pos _ (by decide))
  have hR2 : R < 4294967296 := Int.ofNat_lt.1 (by rw [hR]; exact Int.emod_lt_of_pos _ (by decide))
  have hbk := back32 a b ha hb Q R hQ hR
  obtain ⟨P, hP⟩ : ∃ P : Nat, Q * b % 4294967296 = P := ⟨_, rfl⟩
  have hP2 : P < 4294967296 := by rw [← hP]; exact Nat.mod_lt _ (by decide)
  rw [hP] at hbk
  have E0 := Lib.hid (show twoA 109 a b = ((Q : Int), 0) by rw [sq32 a b ha hb h0 (by rintro ⟨h1, h2⟩; exact hx2 h1), hQ])
  have E1 := Lib.hid (show twoA 111 a b = ((R : Int), 0) by rw [sr132 a b ha hb hl, hR, hl, Int.tmod_neg, Int.tmod_one]; rfl)
  have E2 := Lib.hid (show (twoA 108 Q b).1 = (P : Int) by rw [v32_mul _ _ hQ2 hb, hP])
  have E3 := Lib.hid (show (twoA 106 P R).1 = (a : Int) by rw [v32_add _ _ hP2 hR2, hbk])
  have HQ := Lib.hid hQ2
  have HR := Lib.hid hR2
  have HP := Lib.hid hP2
  clear hQ hR hP hbk h0 hQ2 hR2 hP2 hl hx2
  have HA := Lib.hid ha
  have HB := Lib.hid hb
  clear ha hb
  go_enter Tryd.func5, Tryd.ntmps5
  go_wp2_with fail
  refine (examples_any _).mono ?_
  rintro e w0 ⟨rfl, b0⟩
  go_wp2_with fail
  refine (two_any 109 a b _ (by have := HA.out; have := HB.out; omega) (by have := HA.out; have := HB.out; omega) (by decide)).mono ?_
  rintro e w1 ⟨rfl, c1⟩
  have b1 := b0.trans (c1.mono b0.size)
  rw [E0.out]
  go_wp2_with fail
  refine (two_any 111 a b _ (by have := HA.out; have := HB.out; omega) (by have := HA.out; have := HB.out; omega) (by decide)).mono ?_
  rintro e w2 ⟨rfl, c2⟩
  have b2 := b1.trans (c2.mono b1.size)
  rw [E1.out]
  go_wp2_with fail
  refine (law_two 108 Q b _ (by have := HA.out; have := HB.out; have := HQ.out; have := HR.out; have := HP.out; omega) (by have := HA.out; have := HB.out; have := HQ.out; have := HR.out; have := HP.out; omega) (by decide)).mono ?_
  rintro e w3 ⟨rfl, c3⟩
  have b3 := b2.trans (c3.mono b2.size)
  rw [E2.out]
  go_wp2_with fail
  refine (law_two 106 P R _ (by have := HA.out; have := HB.out; have := HQ.out; have := HR.out; have := HP.out; omega) (by have := HA.out; have := HB.out; have := HQ.out; have := HR.out; have := HP.out; omega) (by decide)).mono ?_
  rintro e w4 ⟨rfl, c4⟩
  have b4 := b3.trans (c4.mono b3.size)
  rw [E3.out]
  go_wp2_with fail
  go_ret
  exact ⟨rfl, b4⟩

set_option maxRecDepth 100000 in
set_option maxHeartbeats 1000000 in
theorem divides_ns_n (x y a b : Nat) (w : World) (hx : x < 18446744073709551616) (hy : y < 18446744073709551616) (hxa : x % 4294967296 = a) (hyb : y % 4294967296 = b) (h0 : b ≠ 0) (hl : wrap32 (b : Int) ≠ -1) :
    Calls Tryd.prog 5 #[.int .u64 x, .int .u64 y, .bool true, .bool true] w fun e w' => e = .returned (.bool true) ∧ Below w.heap.size w w' := by
  have ha : a < 4294967296 := by omega
  have hb : b < 4294967296 := by omega
  have ex : (x : Int) % 4294967296 = (a : Int) := by omega
  have ey : (y : Int) % 4294967296 = (b : Int) := by omega
  clear hxa hyb hx hy
  have hq : ((b : Int) == 0) = false := beq_eq_false_iff_ne.2 (by omega)
  obtain ⟨Q, hQ⟩ : ∃ Q : Nat, (Q : Int) = ((wrap32 (a : Int)).tdiv (wrap32 (b : Int))) % 4294967296 := Int.eq_ofNat_of_zero_le (Int.emod_nonneg _ (by decide)) |>.imp fun _ h => h.symm
  obtain ⟨R, hR⟩ : ∃ R : Nat, (R : Int) = ((wrap32 (a : Int)).tmod (wrap32 (b : Int))) % 4294967296 := Int.eq_ofNat_of_zero_le (Int.emod_nonneg _ (by decide)) |>.imp fun _ h => h.symm
  have hQ2 : Q < 4294967296 := Int.ofNat_lt.1 (by rw [hQ]; exact Int.emod_lt_of_pos _ (by decide))
  have hR2 : R < 4294967296 := Int.ofNat_lt.1 (by rw [hR]; exact Int.emod_lt_of_pos _ (by decide))
  have hbk := back32 a b ha hb Q R hQ hR
  obtain ⟨P, hP⟩ : ∃ P : Nat, Q * b % 4294967296 = P := ⟨_, rfl⟩
  have hP2 : P < 4294967296 := by rw [← hP]; exact Nat.mod_lt _ (by decide)
  rw [hP] at hbk
  have E0 := Lib.hid (show twoA 109 a b = ((Q : Int), 0) by rw [sq32 a b ha hb h0 (by rintro ⟨h1, h2⟩; exact hl h2), hQ])
  have E1 := Lib.hid (show twoA 111 a b = ((R : Int), 0) by rw [sr32 a b ha hb h0 hl, hR])
  have E2 := Lib.hid (show (twoA 108 Q b).1 = (P : Int) by rw [v32_mul _ _ hQ2 hb, hP])
  have E3 := Lib.hid (show (twoA 106 P R).1 = (a : Int) by rw [v32_add _ _ hP2 hR2, hbk])
  have HQ := Lib.hid hQ2
  have HR := Lib.hid hR2
  have HP := Lib.hid hP2
  clear hQ hR hP hbk h0 hQ2 hR2 hP2 hl
  have HA := Lib.hid ha
  have HB := Lib.hid hb
  clear ha hb
  go_enter Tryd.func5, Tryd.ntmps5
  go_wp2_with fail
  refine (examples_any _).mono ?_
  rintro e w0 ⟨rfl, b0⟩
  go_wp2_with fail
  refine (two_any 109 a b _ (by have := HA.out; have := HB.out; omega) (by have := HA.out; have := HB.out; omega) (by decide)).mono ?_
  rintro e w1 ⟨rfl, c1⟩
  have b1 := b0.trans (c1.mono b0.size)
  rw [E0.out]
  go_wp2_with fail
  refine (two_any 111 a b _ (by have := HA.out; have := HB.out; omega) (by have := HA.out; have := HB.out; omega) (by decide)).mono ?_
  rintro e w2 ⟨rfl, c2⟩
  have b2 := b1.trans (c2.mono b1.size)
  rw [E1.out]
  go_wp2_with fail
  refine (law_two 108 Q b _ (by have := HA.out; have := HB.out; have := HQ.out; have := HR.out; have := HP.out; omega) (by have := HA.out; have := HB.out; have := HQ.out; have := HR.out; have := HP.out; omega) (by decide)).mono ?_
  rintro e w3 ⟨rfl, c3⟩
  have b3 := b2.trans (c3.mono b2.size)
  rw [E2.out]
  go_wp2_with fail
  refine (law_two 106 P R _ (by have := HA.out; have := HB.out; have := HQ.out; have := HR.out; have := HP.out; omega) (by have := HA.out; have := HB.out; have := HQ.out; have := HR.out; have := HP.out; omega) (by decide)).mono ?_
  rintro e w4 ⟨rfl, c4⟩
  have b4 := b3.trans (c4.mono b3.size)
  rw [E3.out]
  go_wp2_with fail
  go_ret
  exact ⟨rfl, b4⟩

set_option maxRecDepth 100000 in
set_option maxHeartbeats 1000000 in
theorem divides_nu_z (x y a b : Nat) (w : World) (hx : x < 18446744073709551616) (hy : y < 18446744073709551616) (hxa : x % 4294967296 = a) (hyb : y % 4294967296 = b) (h0 : b = 0) :
    Calls Tryd.prog 5 #[.int .u64 x, .int .u64 y, .bool true, .bool false] w fun e w' => e = .returned (.bool true) ∧ Below w.heap.size w w' := by
  have ha : a < 4294967296 := by omega
  have hb : b < 4294967296 := by omega
  have ex : (x : Int) % 4294967296 = (a : Int) := by omega
  have ey : (y : Int) % 4294967296 = (b : Int) := by omega
  clear hxa hyb hx hy
  have hq : ((b : Int) == 0) = true := by simp [h0]
  have E0 := Lib.hid (show twoA 110 a b = (0, 6) by rw [h0]; exact (uz32 a ha).1)
  have E1 := Lib.hid (show twoA 112 a b = (0, 6) by rw [h0]; exact (uz32 a ha).2)
  clear h0
  have HA := Lib.hid ha
  have HB := Lib.hid hb
  clear ha hb
  go_enter Tryd.func5, Tryd.ntmps5
  go_wp2_with fail
  refine (examples_any _).mono ?_
  rintro e w0 ⟨rfl, b0⟩
  go_wp2_with fail
  refine (two_any 110 a b _ (by have := HA.out; have := HB.out; omega) (by have := HA.out; have := HB.out; omega) (by decide)).mono ?_
  rintro e w1 ⟨rfl, c1⟩
  have b1 := b0.trans (c1.mono b0.size)
  rw [E0.out]
  go_wp2_with fail
  refine (two_any 112 a b _ (by have := HA.out; have := HB.out; omega) (by have := HA.out; have := HB.out; omega) (by decide)).mono ?_
  rintro e w2 ⟨rfl, c2⟩
  have b2 := b1.trans (c2.mono b1.size)
  rw [E1.out]
  go_wp2_with fail
  go_ret
  exact ⟨rfl, b2⟩

set_option maxRecDepth 100000 in
set_option maxHeartbeats 1000000 in
theorem divides_nu_n (x y a b : Nat) (w : World) (hx : x < 18446744073709551616) (hy : y < 18446744073709551616) (hxa : x % 4294967296 = a) (hyb : y % 4294967296 = b) (h0 : b ≠ 0) :
    Calls Tryd.prog 5 #[.int .u64 x, .int .u64 y, .bool true, .bool false] w fun e w' => e = .returned (.bool true) ∧ Below w.heap.size w w' := by
  have ha : a < 4294967296 := by omega
  have hb : b < 4294967296 := by omega
  have ex : (x : Int) % 4294967296 = (a : Int) := by omega
  have ey : (y : Int) % 4294967296 = (b : Int) := by omega
  clear hxa hyb hx hy
  have hq : ((b : Int) == 0) = false := beq_eq_false_iff_ne.2 (by omega)
  obtain ⟨Q, hQ⟩ : ∃ Q : Nat, a / b = Q := ⟨_, rfl⟩
  obtain ⟨R, hR⟩ : ∃ R : Nat, a % b = R := ⟨_, rfl⟩
  have hQ2 : Q < 4294967296 := by have := Nat.div_le_self a b; omega
  have hR3 : R < b := by rw [← hR]; exact Nat.mod_lt _ (by omega)
  have hR2 : R < 4294967296 := by omega
  have hbk := backU32 a b ha hb
  rw [hQ, hR] at hbk
  obtain ⟨P, hP⟩ : ∃ P : Nat, Q * b % 4294967296 = P := ⟨_, rfl⟩
  have hP2 : P < 4294967296 := by rw [← hP]; exact Nat.mod_lt _ (by decide)
  rw [hP] at hbk
  have E0 := Lib.hid (show twoA 110 a b = ((Q : Int), 0) by rw [uq32 a b ha hb h0, hQ])
  have E1 := Lib.hid (show twoA 112 a b = ((R : Int), 0) by rw [ur32 a b ha hb h0, hR])
  have E2 := Lib.hid (show (twoA 108 Q b).1 = (P : Int) by rw [v32_mul _ _ hQ2 hb, hP])
  have E3 := Lib.hid (show (twoA 106 P R).1 = (a : Int) by rw [v32_add _ _ hP2 hR2, hbk])
  have HQ := Lib.hid hQ2
  have HR := Lib.hid hR2
  have HP := Lib.hid hP2
  clear hQ hR hP hbk h0 hQ2 hR2 hP2
  have HA := Lib.hid ha
  have HB := Lib.hid hb
  clear ha hb
  go_enter Tryd.func5, Tryd.ntmps5
  go_wp2_with fail
  refine (examples_any _).mono ?_
  rintro e w0 ⟨rfl, b0⟩
  go_wp2_with fail
  refine (two_any 110 a b _ (by have := HA.out; have := HB.out; omega) (by have := HA.out; have := HB.out; omega) (by decide)).mono ?_
  rintro e w1 ⟨rfl, c1⟩
  have b1 := b0.trans (c1.mono b0.size)
  rw [E0.out]
  go_wp2_with fail
  refine (two_any 112 a b _ (by have := HA.out; have := HB.out; omega) (by have := HA.out; have := HB.out; omega) (by decide)).mono ?_
  rintro e w2 ⟨rfl, c2⟩
  have b2 := b1.trans (c2.mono b1.size)
  rw [E1.out]
  go_wp2_with fail
  refine (law_two 108 Q b _ (by have := HA.out; have := HB.out; have := HQ.out; have := HR.out; have := HP.out; omega) (by have := HA.out; have := HB.out; have := HQ.out; have := HR.out; have := HP.out; omega) (by decide)).mono ?_
  rintro e w3 ⟨rfl, c3⟩
  have b3 := b2.trans (c3.mono b2.size)
  rw [E2.out]
  go_wp2_with fail
  refine (law_two 106 P R _ (by have := HA.out; have := HB.out; have := HQ.out; have := HR.out; have := HP.out; omega) (by have := HA.out; have := HB.out; have := HQ.out; have := HR.out; have := HP.out; omega) (by decide)).mono ?_
  rintro e w4 ⟨rfl, c4⟩
  have b4 := b3.trans (c4.mono b3.size)
  rw [E3.out]
  go_wp2_with fail
  go_ret
  exact ⟨rfl, b4⟩

set_option maxRecDepth 100000 in
set_option maxHeartbeats 1000000 in
theorem divides_ws_z (x y a b : Nat) (w : World) (hx : x < 18446744073709551616) (hy : y < 18446744073709551616) (hxa : x = a) (hyb : y = b) (h0 : b = 0) :
    Calls Tryd.prog 5 #[.int .u64 x, .int .u64 y, .bool false, .bool true] w fun e w' => e = .returned (.bool true) ∧ Below w.heap.size w w' := by
  have ha : a < 18446744073709551616 := by omega
  have hb : b < 18446744073709551616 := by omega
  subst hxa
  subst hyb
  clear hx hy
  have hq : ((y : Int) == 0) = true := by simp [h0]
  have E0 := Lib.hid (show twoA 127 x y = (0, 6) by rw [h0]; exact (sz64 x ha).1)
  have E1 := Lib.hid (show twoA 129 x y = (0, 6) by rw [h0]; exact (sz64 x ha).2)
  clear h0
  have HA := Lib.hid ha
  have HB := Lib.hid hb
  clear ha hb
  go_enter Tryd.func5, Tryd.ntmps5
  go_wp2_with fail
  refine (examples_any _).mono ?_
  rintro e w0 ⟨rfl, b0⟩
  go_wp2_with fail
  refine (two_any 127 x y _ (by have := HA.out; have := HB.out; omega) (by have := HA.out; have := HB.out; omega) (by decide)).mono ?_
  rintro e w1 ⟨rfl, c1⟩
  have b1 := b0.trans (c1.mono b0.size)
  rw [E0.out]
  go_wp2_with fail
  refine (two_any 129 x y _ (by have := HA.out; have := HB.out; omega) (by have := HA.out; have := HB.out; omega) (by decide)).mono ?_
  rintro e w2 ⟨rfl, c2⟩
  have b2 := b1.trans (c2.mono b1.size)
  rw [E1.out]
  go_wp2_with fail
  go_ret
  exact ⟨rfl, b2⟩

set_option maxRecDepth 100000 in
set_option maxHeartbeats 1000000 in
theorem divides_ws_l (x y a b : Nat) (w : World) (hx : x < 18446744073709551616) (hy : y < 18446744073709551616) (hxa : x = a) (hyb : y = b) (h0 : b ≠ 0) (hx2 : wrap64 (a : Int) = -9223372036854775808) (hl : wrap64 (b : Int) = -1) :
    Calls Tryd.prog 5 #[.int .u64 x, .int .u64 y, .bool false, .bool true] w fun e w' => e = .returned (.bool true) ∧ Below w.heap.size w w' := by
  have ha : a < 18446744073709551616 := by omega
  have hb : b < 18446744073709551616 := by omega
  subst hxa
  subst hyb
  clear hx hy
  have hq : ((y : Int) == 0) = false := beq_eq_false_iff_ne.2 (by omega)
  have E0 := Lib.hid (sl64 x y ha hb hx2 hl)
  have E1 := Lib.hid (sr164 x y ha hb hl)
  clear h0 hx2 hl
  have HA := Lib.hid ha
  have HB := Lib.hid hb
  clear ha hb
  go_enter Tryd.func5, Tryd.ntmps5
  go_wp2_with fail
  refine (examples_any _).mono ?_
  rintro e w0 ⟨rfl, b0⟩
  go_wp2_with fail
  refine (two_any 127 x y _ (by have := HA.out; have := HB.out; omega) (by have := HA.out; have := HB.out; omega) (by decide)).mono ?_
  rintro e w1 ⟨rfl, c1⟩
  have b1 := b0.trans (c1.mono b0.size)
  rw [E0.out]
  go_wp2_with fail
  refine (two_any 129 x y _ (by have := HA.out; have := HB.out; omega) (by have := HA.out; have := HB.out; omega) (by decide)).mono ?_
  rintro e w2 ⟨rfl, c2⟩
  have b2 := b1.trans (c2.mono b1.size)
  rw [E1.out]
  go_wp2_with fail
  go_ret
  exact ⟨rfl, b2⟩

set_option maxRecDepth 100000 in
set_option maxHeartbeats 1000000 in
theorem divides_ws_m (x y a b : Nat) (w : World) (hx : x < 18446744073709551616) (hy : y < 18446744073709551616) (hxa : x = a) (hyb : y = b) (h0 : b ≠ 0) (hl : wrap64 (b : Int) = -1) (hx2 : wrap64 (a : Int) ≠ -9223372036854775808) :
    Calls Tryd.prog 5 #[.int .u64 x, .int .u64 y, .bool false, .bool true] w fun e w' => e = .returned (.bool true) ∧ Below w.heap.size w w' := by
  have ha : a < 18446744073709551616 := by omega
  have hb : b < 18446744073709551616 := by omega
  subst hxa
  subst hyb
  clear hx hy
  have hq : ((y : Int) == 0) = false := beq_eq_false_iff_ne.2 (by omega)
  obtain ⟨Q, hQ⟩ : ∃ Q : Nat, (Q : Int) = ((wrap64 (x : Int)).tdiv (wrap64 (y : Int))) % 18446744073709551616 := Int.eq_ofNat_of_zero_le (Int.emod_nonneg _ (by decide)) |>.imp fun _ h => h.symm
  obtain ⟨R, hR⟩ : ∃ R : Nat, (R : Int) = ((wrap64 (x : Int)).tmod (wrap64 (y : Int))) % 18446744073709551616 := Int.eq_ofNat_of_zero_le (Int.emod_nonneg _ (by decide)) |>.imp fun _ h => h.symm
  have hQ2 : Q < 18446744073709551616 := Int.ofNat_lt.1 (by rw [hQ]; exact Int.emod_lt_of_pos _ (by decide))
  have hR2 : R < 18446744073709551616 := Int.ofNat_lt.1 (by rw [hR]; exact Int.emod_lt_of_pos _ (by decide))
  have hbk := back64 x y ha hb Q R hQ hR
  obtain ⟨P, hP⟩ : ∃ P : Nat, Q * y % 18446744073709551616 = P := ⟨_, rfl⟩
  have hP2 : P < 18446744073709551616 := by rw [← hP]; exact Nat.mod_lt _ (by decide)
  rw [hP] at hbk
  have E0 := Lib.hid (show twoA 127 x y = ((Q : Int), 0) by rw [sq64 x y ha hb h0 (by rintro ⟨h1, h2⟩; exact hx2 h1), hQ, IntKind.wrap_u64])
  have E1 := Lib.hid (show twoA 129 x y = ((R : Int), 0) by rw [sr164 x y ha hb hl, hR, hl, Int.tmod_neg, Int.tmod_one]; rfl)
  have E2 := Lib.hid (show (twoA 126 Q y).1 = (P : Int) by rw [v64_mul _ _ hQ2 hb, hP])
  have E3 := Lib.hid (show (twoA 124 P R).1 = (x : Int) by rw [v64_add _ _ hP2 hR2, hbk])
  have HQ := Lib.hid hQ2
  have HR := Lib.hid hR2
  have HP := Lib.hid hP2
  clear hQ hR hP hbk h0 hQ2 hR2 hP2 hl hx2
  have HA := Lib.hid ha
  have HB := Lib.hid hb
  clear ha hb
  go_enter Tryd.func5, Tryd.ntmps5
  go_wp2_with fail
  refine (examples_any _).mono ?_
  rintro e w0 ⟨rfl, b0⟩
  go_wp2_with fail
  refine (two_any 127 x y _ (by have := HA.out; have := HB.out; omega) (by have := HA.out; have := HB.out; omega) (by decide)).mono ?_
  rintro e w1 ⟨rfl, c1⟩
  have b1 := b0.trans (c1.mono b0.size)
  rw [E0.out]
  go_wp2_with fail
  refine (two_any 129 x y _ (by have := HA.out; have := HB.out; omega) (by have := HA.out; have := HB.out; omega) (by decide)).mono ?_
  rintro e w2 ⟨rfl, c2⟩
  have b2 := b1.trans (c2.mono b1.size)
  rw [E1.out]
  go_wp2_with fail
  refine (law_two 126 Q y _ (by have := HA.out; have := HB.out; have := HQ.out; have := HR.out; have := HP.out; omega) (by have := HA.out; have := HB.out; have := HQ.out; have := HR.out; have := HP.out; omega) (by decide)).mono ?_
  rintro e w3 ⟨rfl, c3⟩
  have b3 := b2.trans (c3.mono b2.size)
  rw [E2.out]
  go_wp2_with fail
  refine (law_two 124 P R _ (by have := HA.out; have := HB.out; have := HQ.out; have := HR.out; have := HP.out; omega) (by have := HA.out; have := HB.out; have := HQ.out; have := HR.out; have := HP.out; omega) (by decide)).mono ?_
  rintro e w4 ⟨rfl, c4⟩
  have b4 := b3.trans (c4.mono b3.size)
  rw [E3.out]
  go_wp2_with fail
  go_ret
  exact ⟨rfl, b4⟩

set_option maxRecDepth 100000 in
set_option maxHeartbeats 1000000 in
theorem divides_ws_n (x y a b : Nat) (w : World) (hx : x < 18446744073709551616) (hy : y < 18446744073709551616) (hxa : x = a) (hyb : y = b) (h0 : b ≠ 0) (hl : wrap64 (b : Int) ≠ -1) :
    Calls Tryd.prog 5 #[.int .u64 x, .int .u64 y, .bool false, .bool true] w fun e w' => e = .returned (.bool true) ∧ Below w.heap.size w w' := by
  have ha : a < 18446744073709551616 := by omega
  have hb : b < 18446744073709551616 := by omega
  subst hxa
  subst hyb
  clear hx hy
  have hq : ((y : Int) == 0) = false := beq_eq_false_iff_ne.2 (by omega)
  obtain ⟨Q, hQ⟩ : ∃ Q : Nat, (Q : Int) = ((wrap64 (x : Int)).tdiv (wrap64 (y : Int))) % 18446744073709551616 := Int.eq_ofNat_of_zero_le (Int.emod_nonneg _ (by decide)) |>.imp fun _ h => h.symm
  obtain ⟨R, hR⟩ : ∃ R : Nat, (R : Int) = ((wrap64 (x : Int)).tmod (wrap64 (y : Int))) % 18446744073709551616 := Int.eq_ofNat_of_zero_le (Int.emod_nonneg _ (by decide)) |>.imp fun _ h => h.symm
  have hQ2 : Q < 18446744073709551616 := Int.ofNat_lt.1 (by rw [hQ]; exact Int.emod_lt_of_pos _ (by decide))
  have hR2 : R < 18446744073709551616 := Int.ofNat_lt.1 (by rw [hR]; exact Int.emod_lt_of_pos _ (by decide))
  have hbk := back64 x y ha hb Q R hQ hR
  obtain ⟨P, hP⟩ : ∃ P : Nat, Q * y % 18446744073709551616 = P := ⟨_, rfl⟩
  have hP2 : P < 18446744073709551616 := by rw [← hP]; exact Nat.mod_lt _ (by decide)
  rw [hP] at hbk
  have E0 := Lib.hid (show twoA 127 x y = ((Q : Int), 0) by rw [sq64 x y ha hb h0 (by rintro ⟨h1, h2⟩; exact hl h2), hQ, IntKind.wrap_u64])
  have E1 := Lib.hid (show twoA 129 x y = ((R : Int), 0) by rw [sr64 x y ha hb h0 hl, hR, IntKind.wrap_u64])
  have E2 := Lib.hid (show (twoA 126 Q y).1 = (P : Int) by rw [v64_mul _ _ hQ2 hb, hP])
  have E3 := Lib.hid (show (twoA 124 P R).1 = (x : Int) by rw [v64_add _ _ hP2 hR2, hbk])
  have HQ := Lib.hid hQ2
  have HR := Lib.hid hR2
  have HP := Lib.hid hP2
  clear hQ hR hP hbk h0 hQ2 hR2 hP2 hl
  have HA := Lib.hid ha
  have HB := Lib.hid hb
  clear ha hb
  go_enter Tryd.func5, Tryd.ntmps5
  go_wp2_with fail
  refine (examples_any _).mono ?_
  rintro e w0 ⟨rfl, b0⟩
  go_wp2_with fail
  refine (two_any 127 x y _ (by have := HA.out; have := HB.out; omega) (by have := HA.out; have := HB.out; omega) (by decide)).mono ?_
  rintro e w1 ⟨rfl, c1⟩
  have b1 := b0.trans (c1.mono b0.size)
  rw [E0.out]
  go_wp2_with fail
  refine (two_any 129 x y _ (by have := HA.out; have := HB.out; omega) (by have := HA.out; have := HB.out; omega) (by decide)).mono ?_
  rintro e w2 ⟨rfl, c2⟩
  have b2 := b1.trans (c2.mono b1.size)
  rw [E1.out]
  go_wp2_with fail
  refine (law_two 126 Q y _ (by have := HA.out; have := HB.out; have := HQ.out; have := HR.out; have := HP.out; omega) (by have := HA.out; have := HB.out; have := HQ.out; have := HR.out; have := HP.out; omega) (by decide)).mono ?_
  rintro e w3 ⟨rfl, c3⟩
  have b3 := b2.trans (c3.mono b2.size)
  rw [E2.out]
  go_wp2_with fail
  refine (law_two 124 P R _ (by have := HA.out; have := HB.out; have := HQ.out; have := HR.out; have := HP.out; omega) (by have := HA.out; have := HB.out; have := HQ.out; have := HR.out; have := HP.out; omega) (by decide)).mono ?_
  rintro e w4 ⟨rfl, c4⟩
  have b4 := b3.trans (c4.mono b3.size)
  rw [E3.out]
  go_wp2_with fail
  go_ret
  exact ⟨rfl, b4⟩

set_option maxRecDepth 100000 in
set_option maxHeartbeats 1000000 in
theorem divides_wu_z (x y a b : Nat) (w : World) (hx : x < 18446744073709551616) (hy : y < 18446744073709551616) (hxa : x = a) (hyb : y = b) (h0 : b = 0) :
    Calls Tryd.prog 5 #[.int .u64 x, .int .u64 y, .bool false, .bool false] w fun e w' => e = .returned (.bool true) ∧ Below w.heap.size w w' := by
  have ha : a < 18446744073709551616 := by omega
  have hb : b < 18446744073709551616 := by omega
  subst hxa
  subst hyb
  clear hx hy
  have hq : ((y : Int) == 0) = true := by simp [h0]
  have E0 := Lib.hid (show twoA 128 x y = (0, 6) by rw [h0]; exact (uz64 x ha).1)
  have E1 := Lib.hid (show twoA 130 x y = (0, 6) by rw [h0]; exact (uz64 x ha).2)
  clear h0
  have HA := Lib.hid ha
  have HB := Lib.hid hb
  clear ha hb
  go_enter Tryd.func5, Tryd.ntmps5
  go_wp2_with fail
  refine (examples_any _).mono ?_
  rintro e w0 ⟨rfl, b0⟩
  go_wp2_with fail
  refine (two_any 128 x y _ (by have := HA.out; have := HB.out; omega) (by have := HA.out; have := HB.out; omega) (by decide)).mono ?_
  rintro e w1 ⟨rfl, c1⟩
  have b1 := b0.trans (c1.mono b0.size)
  rw [E0.out]
  go_wp2_with fail
  refine (two_any 130 x y _ (by have := HA.out; have := HB.out; omega) (by have := HA.out; have := HB.out; omega) (by decide)).mono ?_
  rintro e w2 ⟨rfl, c2⟩
  have b2 := b1.trans (c2.mono b1.size)
  rw [E1.out]
  go_wp2_with fail
  go_ret
  exact ⟨rfl, b2⟩

set_option maxRecDepth 100000 in
set_option maxHeartbeats 1000000 in
theorem divides_wu_n (x y a b : Nat) (w : World) (hx : x < 18446744073709551616) (hy : y < 18446744073709551616) (hxa : x = a) (hyb : y = b) (h0 : b ≠ 0) :
    Calls Tryd.prog 5 #[.int .u64 x, .int .u64 y, .bool false, .bool false] w fun e w' => e = .returned (.bool true) ∧ Below w.heap.size w w' := by
  have ha : a < 18446744073709551616 := by omega
  have hb : b < 18446744073709551616 := by omega
  subst hxa
  subst hyb
  clear hx hy
  have hq : ((y : Int) == 0) = false := beq_eq_false_iff_ne.2 (by omega)
  obtain ⟨Q, hQ⟩ : ∃ Q : Nat, x / y = Q := ⟨_, rfl⟩
  obtain ⟨R, hR⟩ : ∃ R : Nat, x % y = R := ⟨_, rfl⟩
  have hQ2 : Q < 18446744073709551616 := by have := Nat.div_le_self x y; omega
  have hR3 : R < y := by rw [← hR]; exact Nat.mod_lt _ (by omega)
  have hR2 : R < 18446744073709551616 := by omega
  have hbk := backU64 x y ha hb
  rw [hQ, hR] at hbk
  obtain ⟨P, hP⟩ : ∃ P : Nat, Q * y % 18446744073709551616 = P := ⟨_, rfl⟩
  have hP2 : P < 18446744073709551616 := by rw [← hP]; exact Nat.mod_lt _ (by decide)
  rw [hP] at hbk
  have E0 := Lib.hid (show twoA 128 x y = ((Q : Int), 0) by rw [uq64 x y ha hb h0, hQ])
  have E1 := Lib.hid (show twoA 130 x y = ((R : Int), 0) by rw [ur64 x y ha hb h0, hR])
  have E2 := Lib.hid (show (twoA 126 Q y).1 = (P : Int) by rw [v64_mul _ _ hQ2 hb, hP])
  have E3 := Lib.hid (show (twoA 124 P R).1 = (x : Int) by rw [v64_add _ _ hP2 hR2, hbk])
  have HQ := Lib.hid hQ2
  have HR := Lib.hid hR2
  have HP := Lib.hid hP2
  clear hQ hR hP hbk h0 hQ2 hR2 hP2
  have HA := Lib.hid ha
  have HB := Lib.hid hb
  clear ha hb
  go_enter Tryd.func5, Tryd.ntmps5
  go_wp2_with fail
  refine (examples_any _).mono ?_
  rintro e w0 ⟨rfl, b0⟩
  go_wp2_with fail
  refine (two_any 128 x y _ (by have := HA.out; have := HB.out; omega) (by have := HA.out; have := HB.out; omega) (by decide)).mono ?_
  rintro e w1 ⟨rfl, c1⟩
  have b1 := b0.trans (c1.mono b0.size)
  rw [E0.out]
  go_wp2_with fail
  refine (two_any 130 x y _ (by have := HA.out; have := HB.out; omega) (by have := HA.out; have := HB.out; omega) (by decide)).mono ?_
  rintro e w2 ⟨rfl, c2⟩
  have b2 := b1.trans (c2.mono b1.size)
  rw [E1.out]
  go_wp2_with fail
  refine (law_two 126 Q y _ (by have := HA.out; have := HB.out; have := HQ.out; have := HR.out; have := HP.out; omega) (by have := HA.out; have := HB.out; have := HQ.out; have := HR.out; have := HP.out; omega) (by decide)).mono ?_
  rintro e w3 ⟨rfl, c3⟩
  have b3 := b2.trans (c3.mono b2.size)
  rw [E2.out]
  go_wp2_with fail
  refine (law_two 124 P R _ (by have := HA.out; have := HB.out; have := HQ.out; have := HR.out; have := HP.out; omega) (by have := HA.out; have := HB.out; have := HQ.out; have := HR.out; have := HP.out; omega) (by decide)).mono ?_
  rintro e w4 ⟨rfl, c4⟩
  have b4 := b3.trans (c4.mono b3.size)
  rw [E3.out]
  go_wp2_with fail
  go_ret
  exact ⟨rfl, b4⟩

theorem divides_walk (x y : Nat) (narrow signed : Bool) (w : World) (hx : x < 18446744073709551616) (hy : y < 18446744073709551616) :
    Calls Tryd.prog 5 #[.int .u64 x, .int .u64 y, .bool narrow, .bool signed] w fun e w' => e = .returned (.bool true) ∧ Below w.heap.size w w' := by
  cases narrow
  · by_cases h0 : y = 0
    · cases signed
      · exact divides_wu_z x y x y w hx hy rfl rfl h0
      · exact divides_ws_z x y x y w hx hy rfl rfl h0
    · cases signed
      · exact divides_wu_n x y x y w hx hy rfl rfl h0
      · by_cases h1 : wrap64 (y : Nat) = -1
        · by_cases h2 : wrap64 (x : Nat) = -9223372036854775808
          · exact divides_ws_l x y x y w hx hy rfl rfl h0 h2 h1
          · exact divides_ws_m x y x y w hx hy rfl rfl h0 h1 h2
        · exact divides_ws_n x y x y w hx hy rfl rfl h0 h1
  · by_cases h0 : (y % 4294967296) = 0
    · cases signed
      · exact divides_nu_z x y (x % 4294967296) (y % 4294967296) w hx hy rfl rfl h0
      · exact divides_ns_z x y (x % 4294967296) (y % 4294967296) w hx hy rfl rfl h0
    · cases signed
      · exact divides_nu_n x y (x % 4294967296) (y % 4294967296) w hx hy rfl rfl h0
      · by_cases h1 : wrap32 ((y % 4294967296) : Nat) = -1
        · by_cases h2 : wrap32 ((x % 4294967296) : Nat) = -2147483648
          · exact divides_ns_l x y (x % 4294967296) (y % 4294967296) w hx hy rfl rfl h0 h2 h1
          · exact divides_ns_m x y (x % 4294967296) (y % 4294967296) w hx hy rfl rfl h0 h1 h2
        · exact divides_ns_n x y (x % 4294967296) (y % 4294967296) w hx hy rfl rfl h0 h1
end Go.Proofs.YtebikmnegemggaaDoor.Num
