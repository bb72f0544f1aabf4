/-
  The walk of NumTests: it answers true. No condition beyond what the theorem names.
-/
import Derived.Test.YtebikmnegemggaaDoorNumEx
namespace Go.Proofs.YtebikmnegemggaaDoor.Num
open Go.RowKit
set_option linter.unusedVariables false

theorem val64 (k : Nat) (hk : k < 10) (op : Int) (hop : op = 81 + (k : Int)) (a b : Nat) (s u : Int) (hs : ord (wrap64 (a : Int)) (wrap64 (b : Int)) = s) (hu : ord (a : Int) (b : Int) = u) (v : Int) (hv : truthA (testB k s u) = v) : (twoA op a b).1 = v := by
  rw [twoA_t64 k a b hk op hop, hs, hu]
  exact hv
theorem val32 (k : Nat) (hk : k < 10) (op : Int) (hop : op = 70 + (k : Int)) (a b : Nat) (ha : a < 4294967296) (hb : b < 4294967296) (s u : Int) (hs : ord (wrap32 (a : Int)) (wrap32 (b : Int)) = s) (hu : ord (a : Int) (b : Int) = u) (v : Int) (hv : truthA (testB k s u) = v) : (twoA op a b).1 = v := by
  rw [twoA_t32 k a b hk op hop, Nat.mod_eq_of_lt ha, Nat.mod_eq_of_lt hb, hs, hu]
  exact hv
theorem testB_0 (s u : Int) : testB 0 s u = (s == 0) := rfl
theorem testB_1 (s u : Int) : testB 1 s u = !(u == 0) := rfl
theorem ord_lt {x y : Int} (h : x < y) : ord x y = -1 := by unfold ord; rw [if_pos h]
theorem ord_gt {x y : Int} (h : y < x) : ord x y = 1 := by unfold ord; rw [if_neg (by omega), if_pos h]
theorem ord_same (x : Int) : ord x x = 0 := by unfold ord; rw [if_neg (by omega), if_neg (by omega)]
theorem ord_ne {x y : Int} (h : x ≠ y) : (ord x y == 0) = false := by
  rcases (show x < y ∨ y < x by omega) with h1 | h1
  · rw [ord_lt h1]; rfl
  · rw [ord_gt h1]; rfl

set_option maxRecDepth 100000 in
set_option maxHeartbeats 1000000 in
theorem tests_ns_eq (x y a b : Nat) (w : World) (hx : x < 2 ^ 64) (hy : y < 2 ^ 64) (hxa : x % 4294967296 = a) (hyb : y % 4294967296 = b) (hab : a = b) :
    Calls Tryd.prog 7 #[.int .u64 x, .int .u64 y, .bool true, .bool true] w fun e w' => e = .returned (.bool true) ∧ Below w.heap.size w w' := by
  have ha : a < 4294967296 := by omega
  have hb : b < 4294967296 := by omega
  subst hab
  have Eat := Lib.hid (val32 0 (by decide) 70 (by decide) a a ha ha _ _ (ord_same _) (ord_same _) 1 rfl)
  have Eat1 := Lib.hid (val32 1 (by decide) 71 (by decide) a a ha ha _ _ (ord_same _) (ord_same _) 0 rfl)
  have Ek := Lib.hid (val32 2 (by decide) 72 (by decide) a a ha ha _ _ (ord_same _) (ord_same _) 0 rfl)
  have Ek2 := Lib.hid (val32 4 (by decide) 74 (by decide) a a ha ha _ _ (ord_same _) (ord_same _) 0 rfl)
  have Ek4 := Lib.hid (val32 6 (by decide) 76 (by decide) a a ha ha _ _ (ord_same _) (ord_same _) 1 rfl)
  have Ek6 := Lib.hid (val32 8 (by decide) 78 (by decide) a a ha ha _ _ (ord_same _) (ord_same _) 1 rfl)
  have Esw := Ek
  have HA := Lib.hid ha
  have HB := Lib.hid hb
  have ex : (x : Int) % 4294967296 = (a : Int) := by omega
  have ey : (y : Int) % 4294967296 = (a : Int) := by omega
  clear hxa hyb
  clear ha hb hx hy
  go_enter Tryd.func7, Tryd.ntmps7
  go_wp2_with fail
  refine (examples_any _).mono ?_
  rintro e w0 ⟨rfl, b0⟩
  go_wp2_with fail
  refine (law_two 70 a a _ (by have := HA.out; have := HB.out; omega) (by have := HA.out; have := HB.out; omega) (by decide)).mono ?_
  rintro e w1 ⟨rfl, c1⟩
  have b1 := b0.trans (c1.mono b0.size)
  rw [Eat.out]
  go_wp2_with fail
  refine (law_two 72 a a _ (by have := HA.out; have := HB.out; omega) (by have := HA.out; have := HB.out; omega) (by decide)).mono ?_
  rintro e w2 ⟨rfl, c2⟩
  have b2 := b1.trans (c2.mono b1.size)
  rw [Ek.out]
  go_wp2_with fail
  refine (law_two 74 a a _ (by have := HA.out; have := HB.out; omega) (by have := HA.out; have := HB.out; omega) (by decide)).mono ?_
  rintro e w3 ⟨rfl, c3⟩
  have b3 := b2.trans (c3.mono b2.size)
  rw [Ek2.out]
  go_wp2_with fail
  refine (law_two 71 a a _ (by have := HA.out; have := HB.out; omega) (by have := HA.out; have := HB.out; omega) (by decide)).mono ?_
  rintro e w4 ⟨rfl, c4⟩
  have b4 := b3.trans (c4.mono b3.size)
  rw [Eat1.out]
  go_wp2_with fail
  refine (law_two 76 a a _ (by have := HA.out; have := HB.out; omega) (by have := HA.out; have := HB.out; omega) (by decide)).mono ?_
  rintro e w5 ⟨rfl, c5⟩
  have b5 := b4.trans (c5.mono b4.size)
  rw [Ek4.out]
  go_wp2_with fail
  refine (law_two 78 a a _ (by have := HA.out; have := HB.out; omega) (by have := HA.out; have := HB.out; omega) (by decide)).mono ?_
  rintro e w6 ⟨rfl, c6⟩
  have b6 := b5.trans (c6.mono b5.size)
  rw [Ek6.out]
  go_wp2_with fail
  refine (law_two 72 a a _ (by have := HA.out; have := HB.out; omega) (by have := HA.out; have := HB.out; omega) (by decide)).mono ?_
  rintro e w7 ⟨rfl, c7⟩
  have b7 := b6.trans (c7.mono b6.size)
  rw [Esw.out]
  go_wp2_with fail
  go_ret
  exact ⟨rfl, b7⟩

set_option maxRecDepth 100000 in
set_option maxHeartbeats 1000000 in
theorem tests_ns_lt (x y a b : Nat) (w : World) (hx : x < 2 ^ 64) (hy : y < 2 ^ 64) (hxa : x % 4294967296 = a) (hyb : y % 4294967296 = b) (hlt : wrap32 (a : Int) < wrap32 (b : Int)) (hab : a ≠ b) :
    Calls Tryd.prog 7 #[.int .u64 x, .int .u64 y, .bool true, .bool true] w fun e w' => e = .returned (.bool true) ∧ Below w.heap.size w w' := by
  have ha : a < 4294967296 := by omega
  have hb : b < 4294967296 := by omega
  have hn : (ord (a : Int) (b : Int) == 0) = false := ord_ne (by omega)
  have Eat := Lib.hid (val32 0 (by decide) 70 (by decide) a b ha hb _ _ (ord_lt hlt) rfl 0 rfl)
  have Eat1 := Lib.hid (val32 1 (by decide) 71 (by decide) a b ha hb _ _ (ord_lt hlt) rfl 1 (by rw [testB_1, hn]; rfl))
  have Ek := Lib.hid (val32 2 (by decide) 72 (by decide) a b ha hb _ _ (ord_lt hlt) rfl 1 rfl)
  have Ek2 := Lib.hid (val32 4 (by decide) 74 (by decide) a b ha hb _ _ (ord_lt hlt) rfl 0 rfl)
  have Ek4 := Lib.hid (val32 6 (by decide) 76 (by decide) a b ha hb _ _ (ord_lt hlt) rfl 1 rfl)
  have Ek6 := Lib.hid (val32 8 (by decide) 78 (by decide) a b ha hb _ _ (ord_lt hlt) rfl 0 rfl)
  have Esw := Lib.hid (val32 2 (by decide) 72 (by decide) b a hb ha _ _ (ord_gt hlt) rfl 0 rfl)
  have hq : ((a : Int) == (b : Int)) = false := beq_eq_false_iff_ne.2 (by omega)
  clear hn hlt
  have HA := Lib.hid ha
  have HB := Lib.hid hb
  have ex : (x : Int) % 4294967296 = (a : Int) := by omega
  have ey : (y : Int) % 4294967296 = (b : Int) := by omega
  clear hxa hyb
  clear hab
  clear ha hb hx hy
  go_enter Tryd.func7, Tryd.ntmps7
  go_wp2_with fail
  refine (examples_any _).mono ?_
  rintro e w0 ⟨rfl, b0⟩
  go_wp2_with fail
  refine (law_two 70 a b _ (by have := HA.out; have := HB.out; omega) (by have := HA.out; have := HB.out; omega) (by decide)).mono ?_
  rintro e w1 ⟨rfl, c1⟩
  have b1 := b0.trans (c1.mono b0.size)
  rw [Eat.out]
  go_wp2_with fail
  refine (law_two 72 a b _ (by have := HA.out; have := HB.out; omega) (by have := HA.out; have := HB.out; omega) (by decide)).mono ?_
  rintro e w2 ⟨rfl, c2⟩
  have b2 := b1.trans (c2.mono b1.size)
  rw [Ek.out]
  go_wp2_with fail
  refine (law_two 74 a b _ (by have := HA.out; have := HB.out; omega) (by have := HA.out; have := HB.out; omega) (by decide)).mono ?_
  rintro e w3 ⟨rfl, c3⟩
  have b3 := b2.trans (c3.mono b2.size)
  rw [Ek2.out]
  go_wp2_with fail
  refine (law_two 71 a b _ (by have := HA.out; have := HB.out; omega) (by have := HA.out; have := HB.out; omega) (by decide)).mono ?_
  rintro e w4 ⟨rfl, c4⟩
  have b4 := b3.trans (c4.mono b3.size)
  rw [Eat1.out]
  go_wp2_with fail
  refine (law_two 76 a b _ (by have := HA.out; have := HB.out; omega) (by have := HA.out; have := HB.out; omega) (by decide)).mono ?_
  rintro e w5 ⟨rfl, c5⟩
  have b5 := b4.trans (c5.mono b4.size)
  rw [Ek4.out]
  go_wp2_with fail
  refine (law_two 78 a b _ (by have := HA.out; have := HB.out; omega) (by have := HA.out; have := HB.out; omega) (by decide)).mono ?_
  rintro e w6 ⟨rfl, c6⟩
  have b6 := b5.trans (c6.mono b5.size)
  rw [Ek6.out]
  go_wp2_with fail
  refine (law_two 72 b a _ (by have := HA.out; have := HB.out; omega) (by have := HA.out; have := HB.out; omega) (by decide)).mono ?_
  rintro e w7 ⟨rfl, c7⟩
  have b7 := b6.trans (c7.mono b6.size)
  rw [Esw.out]
  go_wp2_with fail
  go_ret
  exact ⟨rfl, b7⟩

set_option maxRecDepth 100000 in
set_option maxHeartbeats 1000000 in
theorem tests_ns_gt (x y a b : Nat) (w : World) (hx : x < 2 ^ 64) (hy : y < 2 ^ 64) (hxa : x % 4294967296 = a) (hyb : y % 4294967296 = b) (hlt : wrap32 (b : Int) < wrap32 (a : Int)) (hab : a ≠ b) :
    Calls Tryd.prog 7 #[.int .u64 x, .int .u64 y, .bool true, .bool true] w fun e w' => e = .returned (.bool true) ∧ Below w.heap.size w w' := by
  have ha : a < 4294967296 := by omega
  have hb : b < 4294967296 := by omega
  have hn : (ord (a : Int) (b : Int) == 0) = false := ord_ne (by omega)
  have Eat := Lib.hid (val32 0 (by decide) 70 (by decide) a b ha hb _ _ (ord_gt hlt) rfl 0 rfl)
  have Eat1 := Lib.hid (val32 1 (by decide) 71 (by decide) a b ha hb _ _ (ord_gt hlt) rfl 1 (by rw [testB_1, hn]; rfl))
  have Ek := Lib.hid (val32 2 (by decide) 72 (by decide) a b ha hb _ _ (ord_gt hlt) rfl 0 rfl)
  have Ek2 := Lib.hid (val32 4 (by decide) 74 (by decide) a b ha hb _ _ (ord_gt hlt) rfl 1 rfl)
  have Ek4 := Lib.hid (val32 6 (by decide) 76 (by decide) a b ha hb _ _ (ord_gt hlt) rfl 0 rfl)
  have Ek6 := Lib.hid (val32 8 (by decide) 78 (by decide) a b ha hb _ _ (ord_gt hlt) rfl 1 rfl)
  have Esw := Lib.hid (val32 2 (by decide) 72 (by decide) b a hb ha _ _ (ord_lt hlt) rfl 1 rfl)
  have hq : ((a : Int) == (b : Int)) = false := beq_eq_false_iff_ne.2 (by omega)
  clear hn hlt
  have HA := Lib.hid ha
  have HB := Lib.hid hb
  have ex : (x : Int) % 4294967296 = (a : Int) := by omega
  have ey : (y : Int) % 4294967296 = (b : Int) := by omega
  clear hxa hyb
  clear hab
  clear ha hb hx hy
  go_enter Tryd.func7, Tryd.ntmps7
  go_wp2_with fail
  refine (examples_any _).mono ?_
  rintro e w0 ⟨rfl, b0⟩
  go_wp2_with fail
  refine (law_two 70 a b _ (by have := HA.out; have := HB.out; omega) (by have := HA.out; have := HB.out; omega) (by decide)).mono ?_
  rintro e w1 ⟨rfl, c1⟩
  have b1 := b0.trans (c1.mono b0.size)
  rw [Eat.out]
  go_wp2_with fail
  refine (law_two 72 a b _ (by have := HA.out; have := HB.out; omega) (by have := HA.out; have := HB.out; omega) (by decide)).mono ?_
  rintro e w2 ⟨rfl, c2⟩
  have b2 := b1.trans (c2.mono b1.size)
  rw [Ek.out]
  go_wp2_with fail
  refine (law_two 74 a b _ (by have := HA.out; have := HB.out; omega) (by have := HA.out; have := HB.out; omega) (by decide)).mono ?_
  rintro e w3 ⟨rfl, c3⟩
  have b3 := b2.trans (c3.mono b2.size)
  rw [Ek2.out]
  go_wp2_with fail
  refine (law_two 71 a b _ (by have := HA.out; have := HB.out; omega) (by have := HA.out; have := HB.out; omega) (by decide)).mono ?_
  rintro e w4 ⟨rfl, c4⟩
  have b4 := b3.trans (c4.mono b3.size)
  rw [Eat1.out]
  go_wp2_with fail
  refine (law_two 76 a b _ (by have := HA.out; have := HB.out; omega) (by have := HA.out; have := HB.out; omega) (by decide)).mono ?_
  rintro e w5 ⟨rfl, c5⟩
  have b5 := b4.trans (c5.mono b4.size)
  rw [Ek4.out]
  go_wp2_with fail
  refine (law_two 78 a b _ (by have := HA.out; have := HB.out; omega) (by have := HA.out; have := HB.out; omega) (by decide)).mono ?_
  rintro e w6 ⟨rfl, c6⟩
  have b6 := b5.trans (c6.mono b5.size)
  rw [Ek6.out]
  go_wp2_with fail
  refine (law_two 72 b a _ (by have := HA.out; have := HB.out; omega) (by have := HA.out; have := HB.out; omega) (by decide)).mono ?_
  rintro e w7 ⟨rfl, c7⟩
  have b7 := b6.trans (c7.mono b6.size)
  rw [Esw.out]
  go_wp2_with fail
  go_ret
  exact ⟨rfl, b7⟩

set_option maxRecDepth 100000 in
set_option maxHeartbeats 1000000 in
theorem tests_nu_eq (x y a b : Nat) (w : World) (hx : x < 2 ^ 64) (hy : y < 2 ^ 64) (hxa : x % 4294967296 = a) (hyb : y % 4294967296 = b) (hab : a = b) :
    Calls Tryd.prog 7 #[.int .u64 x, .int .u64 y, .bool true, .bool false] w fun e w' => e = .returned (.bool true) ∧ Below w.heap.size w w' := by
  have ha : a < 4294967296 := by omega
  have hb : b < 4294967296 := by omega
  subst hab
  have Eat := Lib.hid (val32 0 (by decide) 70 (by decide) a a ha ha _ _ (ord_same _) (ord_same _) 1 rfl)
  have Eat1 := Lib.hid (val32 1 (by decide) 71 (by decide) a a ha ha _ _ (ord_same _) (ord_same _) 0 rfl)
  have Ek := Lib.hid (val32 3 (by decide) 73 (by decide) a a ha ha _ _ (ord_same _) (ord_same _) 0 rfl)
  have Ek2 := Lib.hid (val32 5 (by decide) 75 (by decide) a a ha ha _ _ (ord_same _) (ord_same _) 0 rfl)
  have Ek4 := Lib.hid (val32 7 (by decide) 77 (by decide) a a ha ha _ _ (ord_same _) (ord_same _) 1 rfl)
  have Ek6 := Lib.hid (val32 9 (by decide) 79 (by decide) a a ha ha _ _ (ord_same _) (ord_same _) 1 rfl)
  have Esw := Ek
  have HA := Lib.hid ha
  have HB := Lib.hid hb
  have ex : (x : Int) % 4294967296 = (a : Int) := by omega
  have ey : (y : Int) % 4294967296 = (a : Int) := by omega
  clear hxa hyb
  clear ha hb hx hy
  go_enter Tryd.func7, Tryd.ntmps7
  go_wp2_with fail
  refine (examples_any _).mono ?_
  rintro e w0 ⟨rfl, b0⟩
  go_wp2_with fail
  refine (law_two 70 a a _ (by have := HA.out; have := HB.out; omega) (by have := HA.out; have := HB.out; omega) (by decide)).mono ?_
  rintro e w1 ⟨rfl, c1⟩
  have b1 := b0.trans (c1.mono b0.size)
  rw [Eat.out]
  go_wp2_with fail
  refine (law_two 73 a a _ (by have := HA.out; have := HB.out; omega) (by have := HA.out; have := HB.out; omega) (by decide)).mono ?_
  rintro e w2 ⟨rfl, c2⟩
  have b2 := b1.trans (c2.mono b1.size)
  rw [Ek.out]
  go_wp2_with fail
  refine (law_two 75 a a _ (by have := HA.out; have := HB.out; omega) (by have := HA.out; have := HB.out; omega) (by decide)).mono ?_
  rintro e w3 ⟨rfl, c3⟩
  have b3 := b2.trans (c3.mono b2.size)
  rw [Ek2.out]
  go_wp2_with fail
  refine (law_two 71 a a _ (by have := HA.out; have := HB.out; omega) (by have := HA.out; have := HB.out; omega) (by decide)).mono ?_
  rintro e w4 ⟨rfl, c4⟩
  have b4 := b3.trans (c4.mono b3.size)
  rw [Eat1.out]
  go_wp2_with fail
  refine (law_two 77 a a _ (by have := HA.out; have := HB.out; omega) (by have := HA.out; have := HB.out; omega) (by decide)).mono ?_
  rintro e w5 ⟨rfl, c5⟩
  have b5 := b4.trans (c5.mono b4.size)
  rw [Ek4.out]
  go_wp2_with fail
  refine (law_two 79 a a _ (by have := HA.out; have := HB.out; omega) (by have := HA.out; have := HB.out; omega) (by decide)).mono ?_
  rintro e w6 ⟨rfl, c6⟩
  have b6 := b5.trans (c6.mono b5.size)
  rw [Ek6.out]
  go_wp2_with fail
  refine (law_two 73 a a _ (by have := HA.out; have := HB.out; omega) (by have := HA.out; have := HB.out; omega) (by decide)).mono ?_
  rintro e w7 ⟨rfl, c7⟩
  have b7 := b6.trans (c7.mono b6.size)
  rw [Esw.out]
  go_wp2_with fail
  go_ret
  exact ⟨rfl, b7⟩

set_option maxRecDepth 100000 in
set_option maxHeartbeats 1000000 in
theorem tests_nu_lt (x y a b : Nat) (w : World) (hx : x < 2 ^ 64) (hy : y < 2 ^ 64) (hxa : x % 4294967296 = a) (hyb : y % 4294967296 = b) (hlt : (a : Int) < (b : Int)) (hab : a ≠ b) :
    Calls Tryd.prog 7 #[.int .u64 x, .int .u64 y, .bool true, .bool false] w fun e w' => e = .returned (.bool true) ∧ Below w.heap.size w w' := by
  have ha : a < 4294967296 := by omega
  have hb : b < 4294967296 := by omega
  have hn : (ord (wrap32 (a : Int)) (wrap32 (b : Int)) == 0) = false := ord_ne (by unfold wrap32; omega)
  have Eat := Lib.hid (val32 0 (by decide) 70 (by decide) a b ha hb _ _ rfl (ord_lt hlt) 0 (by rw [testB_0, hn]; rfl))
  have Eat1 := Lib.hid (val32 1 (by decide) 71 (by decide) a b ha hb _ _ rfl (ord_lt hlt) 1 rfl)
  have Ek := Lib.hid (val32 3 (by decide) 73 (by decide) a b ha hb _ _ rfl (ord_lt hlt) 1 rfl)
  have Ek2 := Lib.hid (val32 5 (by decide) 75 (by decide) a b ha hb _ _ rfl (ord_lt hlt) 0 rfl)
  have Ek4 := Lib.hid (val32 7 (by decide) 77 (by decide) a b ha hb _ _ rfl (ord_lt hlt) 1 rfl)
  have Ek6 := Lib.hid (val32 9 (by decide) 79 (by decide) a b ha hb _ _ rfl (ord_lt hlt) 0 rfl)
  have Esw := Lib.hid (val32 3 (by decide) 73 (by decide) b a hb ha _ _ rfl (ord_gt hlt) 0 rfl)
  have hq : ((a : Int) == (b : Int)) = false := beq_eq_false_iff_ne.2 (by omega)
  clear hn hlt
  have HA := Lib.hid ha
  have HB := Lib.hid hb
  have ex : (x : Int) % 4294967296 = (a : Int) := by omega
  have ey : (y : Int) % 4294967296 = (b : Int) := by omega
  clear hxa hyb
  clear hab
  clear ha hb hx hy
  go_enter Tryd.func7, Tryd.ntmps7
  go_wp2_with fail
  refine (examples_any _).mono ?_
  rintro e w0 ⟨rfl, b0⟩
  go_wp2_with fail
  refine (law_two 70 a b _ (by have := HA.out; have := HB.out; omega) (by have := HA.out; have := HB.out; omega) (by decide)).mono ?_
  rintro e w1 ⟨rfl, c1⟩
  have b1 := b0.trans (c1.mono b0.size)
  rw [Eat.out]
  go_wp2_with fail
  refine (law_two 73 a b _ (by have := HA.out; have := HB.out; omega) (by have := HA.out; have := HB.out; omega) (by decide)).mono ?_
  rintro e w2 ⟨rfl, c2⟩
  have b2 := b1.trans (c2.mono b1.size)
  rw [Ek.out]
  go_wp2_with fail
  refine (law_two 75 a b _ (by have := HA.out; have := HB.out; omega) (by have := HA.out; have := HB.out; omega) (by decide)).mono ?_
  rintro e w3 ⟨rfl, c3⟩
  have b3 := b2.trans (c3.mono b2.size)
  rw [Ek2.out]
  go_wp2_with fail
  refine (law_two 71 a b _ (by have := HA.out; have := HB.out; omega) (by have := HA.out; have := HB.out; omega) (by decide)).mono ?_
  rintro e w4 ⟨rfl, c4⟩
  have b4 := b3.trans (c4.mono b3.size)
  rw [Eat1.out]
  go_wp2_with fail
  refine (law_two 77 a b _ (by have := HA.out; have := HB.out; omega) (by have := HA.out; have := HB.out; omega) (by decide)).mono ?_
  rintro e w5 ⟨rfl, c5⟩
  have b5 := b4.trans (c5.mono b4.size)
  rw [Ek4.out]
  go_wp2_with fail
  refine (law_two 79 a b _ (by have := HA.out; have := HB.out; omega) (by have := HA.out; have := HB.out; omega) (by decide)).mono ?_
  rintro e w6 ⟨rfl, c6⟩
  have b6 := b5.trans (c6.mono b5.size)
  rw [Ek6.out]
  go_wp2_with fail
  refine (law_two 73 b a _ (by have := HA.out; have := HB.out; omega) (by have := HA.out; have := HB.out; omega) (by decide)).mono ?_
  rintro e w7 ⟨rfl, c7⟩
  have b7 := b6.trans (c7.mono b6.size)
  rw [Esw.out]
  go_wp2_with fail
  go_ret
  exact ⟨rfl, b7⟩

set_option maxRecDepth 100000 in
set_option maxHeartbeats 1000000 in
theorem tests_nu_gt (x y a b : Nat) (w : World) (hx : x < 2 ^ 64) (hy : y < 2 ^ 64) (hxa : x % 4294967296 = a) (hyb : y % 4294967296 = b) (hlt : (b : Int) < (a : Int)) (hab : a ≠ b) :
    Calls Tryd.prog 7 #[.int .u64 x, .int .u64 y, .bool true, .bool false] w fun e w' => e = .returned (.bool true) ∧ Below w.heap.size w w' := by
  have ha : a < 4294967296 := by omega
  have hb : b < 4294967296 := by omega
  have hn : (ord (wrap32 (a : Int)) (wrap32 (b : Int)) == 0) = false := ord_ne (by unfold wrap32; omega)
  have Eat := Lib.hid (val32 0 (by decide) 70 (by decide) a b ha hb _ _ rfl (ord_gt hlt) 0 (by rw [testB_0, hn]; rfl))
  have Eat1 := Lib.hid (val32 1 (by decide) 71 (by decide) a b ha hb _ _ rfl (ord_gt hlt) 1 rfl)
  have Ek := Lib.hid (val32 3 (by decide) 73 (by decide) a b ha hb _ _ rfl (ord_gt hlt) 0 rfl)
  have Ek2 := Lib.hid (val32 5 (by decide) 75 (by decide) a b ha hb _ _ rfl (ord_gt hlt) 1 rfl)
  have Ek4 := Lib.hid (val32 7 (by decide) 77 (by decide) a b ha hb _ _ rfl (ord_gt hlt) 0 rfl)
  have Ek6 := Lib.hid (val32 9 (by decide) 79 (by decide) a b ha hb _ _ rfl (ord_gt hlt) 1 rfl)
  have Esw := Lib.hid (val32 3 (by decide) 73 (by decide) b a hb ha _ _ rfl (ord_lt hlt) 1 rfl)
  have hq : ((a : Int) == (b : Int)) = false := beq_eq_false_iff_ne.2 (by omega)
  clear hn hlt
  have HA := Lib.hid ha
  have HB := Lib.hid hb
  have ex : (x : Int) % 4294967296 = (a : Int) := by omega
  have ey : (y : Int) % 4294967296 = (b : Int) := by omega
  clear hxa hyb
  clear hab
  clear ha hb hx hy
  go_enter Tryd.func7, Tryd.ntmps7
  go_wp2_with fail
  refine (examples_any _).mono ?_
  rintro e w0 ⟨rfl, b0⟩
  go_wp2_with fail
  refine (law_two 70 a b _ (by have := HA.out; have := HB.out; omega) (by have := HA.out; have := HB.out; omega) (by decide)).mono ?_
  rintro e w1 ⟨rfl, c1⟩
  have b1 := b0.trans (c1.mono b0.size)
  rw [Eat.out]
  go_wp2_with fail
  refine (law_two 73 a b _ (by have := HA.out; have := HB.out; omega) (by have := HA.out; have := HB.out; omega) (by decide)).mono ?_
  rintro e w2 ⟨rfl, c2⟩
  have b2 := b1.trans (c2.mono b1.size)
  rw [Ek.out]
  go_wp2_with fail
  refine (law_two 75 a b _ (by have := HA.out; have := HB.out; omega) (by have := HA.out; have := HB.out; omega) (by decide)).mono ?_
  rintro e w3 ⟨rfl, c3⟩
  have b3 := b2.trans (c3.mono b2.size)
  rw [Ek2.out]
  go_wp2_with fail
  refine (law_two 71 a b _ (by have := HA.out; have := HB.out; omega) (by have := HA.out; have := HB.out; omega) (by decide)).mono ?_
  rintro e w4 ⟨rfl, c4⟩
  have b4 := b3.trans (c4.mono b3.size)
  rw [Eat1.out]
  go_wp2_with fail
  refine (law_two 77 a b _ (by have := HA.out; have := HB.out; omega) (by have := HA.out; have := HB.out; omega) (by decide)).mono ?_
  rintro e w5 ⟨rfl, c5⟩
  have b5 := b4.trans (c5.mono b4.size)
  rw [Ek4.out]
  go_wp2_with fail
  refine (law_two 79 a b _ (by have := HA.out; have := HB.out; omega) (by have := HA.out; have := HB.out; omega) (by decide)).mono ?_
  rintro e w6 ⟨rfl, c6⟩
  have b6 := b5.trans (c6.mono b5.size)
  rw [Ek6.out]
  go_wp2_with fail
  refine (law_two 73 b a _ (by have := HA.out; have := HB.out; omega) (by have := HA.out; have := HB.out; omega) (by decide)).mono ?_
  rintro e w7 ⟨rfl, c7⟩
  have b7 := b6.trans (c7.mono b6.size)
  rw [Esw.out]
  go_wp2_with fail
  go_ret
  exact ⟨rfl, b7⟩

set_option maxRecDepth 100000 in
set_option maxHeartbeats 1000000 in
theorem tests_ws_eq (x y a b : Nat) (w : World) (hx : x < 2 ^ 64) (hy : y < 2 ^ 64) (hxa : x = a) (hyb : y = b) (hab : a = b) :
    Calls Tryd.prog 7 #[.int .u64 x, .int .u64 y, .bool false, .bool true] w fun e w' => e = .returned (.bool true) ∧ Below w.heap.size w w' := by
  subst hxa
  subst hyb
  have ha : x < 18446744073709551616 := by omega
  have hb : y < 18446744073709551616 := by omega
  subst hab
  have Eat := Lib.hid (val64 0 (by decide) 81 (by decide) x x _ _ (ord_same _) (ord_same _) 1 rfl)
  have Eat1 := Lib.hid (val64 1 (by decide) 82 (by decide) x x _ _ (ord_same _) (ord_same _) 0 rfl)
  have Ek := Lib.hid (val64 2 (by decide) 83 (by decide) x x _ _ (ord_same _) (ord_same _) 0 rfl)
  have Ek2 := Lib.hid (val64 4 (by decide) 85 (by decide) x x _ _ (ord_same _) (ord_same _) 0 rfl)
  have Ek4 := Lib.hid (val64 6 (by decide) 87 (by decide) x x _ _ (ord_same _) (ord_same _) 1 rfl)
  have Ek6 := Lib.hid (val64 8 (by decide) 89 (by decide) x x _ _ (ord_same _) (ord_same _) 1 rfl)
  have Esw := Ek
  have HA := Lib.hid ha
  have HB := Lib.hid hb
  clear ha hb hx hy
  go_enter Tryd.func7, Tryd.ntmps7
  go_wp2_with fail
  refine (examples_any _).mono ?_
  rintro e w0 ⟨rfl, b0⟩
  go_wp2_with fail
  refine (law_two 81 x x _ (by have := HA.out; have := HB.out; omega) (by have := HA.out; have := HB.out; omega) (by decide)).mono ?_
  rintro e w1 ⟨rfl, c1⟩
  have b1 := b0.trans (c1.mono b0.size)
  rw [Eat.out]
  go_wp2_with fail
  refine (law_two 83 x x _ (by have := HA.out; have := HB.out; omega) (by have := HA.out; have := HB.out; omega) (by decide)).mono ?_
  rintro e w2 ⟨rfl, c2⟩
  have b2 := b1.trans (c2.mono b1.size)
  rw [Ek.out]
  go_wp2_with fail
  refine (law_two 85 x x _ (by have := HA.out; have := HB.out; omega) (by have := HA.out; have := HB.out; omega) (by decide)).mono ?_
  rintro e w3 ⟨rfl, c3⟩
  have b3 := b2.trans (c3.mono b2.size)
  rw [Ek2.out]
  go_wp2_with fail
  refine (law_two 82 x x _ (by have := HA.out; have := HB.out; omega) (by have := HA.out; have := HB.out; omega) (by decide)).mono ?_
  rintro e w4 ⟨rfl, c4⟩
  have b4 := b3.trans (c4.mono b3.size)
  rw [Eat1.out]
  go_wp2_with fail
  refine (law_two 87 x x _ (by have := HA.out; have := HB.out; omega) (by have := HA.out; have := HB.out; omega) (by decide)).mono ?_
  rintro e w5 ⟨rfl, c5⟩
  have b5 := b4.trans (c5.mono b4.size)
  rw [Ek4.out]
  go_wp2_with fail
  refine (law_two 89 x x _ (by have := HA.out; have := HB.out; omega) (by have := HA.out; have := HB.out; omega) (by decide)).mono ?_
  rintro e w6 ⟨rfl, c6⟩
  have b6 := b5.trans (c6.mono b5.size)
  rw [Ek6.out]
  go_wp2_with fail
  refine (law_two 83 x x _ (by have := HA.out; have := HB.out; omega) (by have := HA.out; have := HB.out; omega) (by decide)).mono ?_
  rintro e w7 ⟨rfl, c7⟩
  have b7 := b6.trans (c7.mono b6.size)
  rw [Esw.out]
  go_wp2_with fail
  go_ret
  exact ⟨rfl, b7⟩

set_option maxRecDepth 100000 in
set_option maxHeartbeats 1000000 in
theorem tests_ws_lt (x y a b : Nat) (w : World) (hx : x < 2 ^ 64) (hy : y < 2 ^ 64) (hxa : x = a) (hyb : y = b) (hlt : wrap64 (a : Int) < wrap64 (b : Int)) (hab : a ≠ b) :
    Calls Tryd.prog 7 #[.int .u64 x, .int .u64 y, .bool false, .bool true] w fun e w' => e = .returned (.bool true) ∧ Below w.heap.size w w' := by
  subst hxa
  subst hyb
  have ha : x < 18446744073709551616 := by omega
  have hb : y < 18446744073709551616 := by omega
  have hn : (ord (x : Int) (y : Int) == 0) = false := ord_ne (by omega)
  have Eat := Lib.hid (val64 0 (by decide) 81 (by decide) x y _ _ (ord_lt hlt) rfl 0 rfl)
  have Eat1 := Lib.hid (val64 1 (by decide) 82 (by decide) x y _ _ (ord_lt hlt) rfl 1 (by rw [testB_1, hn]; rfl))
  have Ek := Lib.hid (val64 2 (by decide) 83 (by decide) x y _ _ (ord_lt hlt) rfl 1 rfl)
  have Ek2 := Lib.hid (val64 4 (by decide) 85 (by decide) x y _ _ (ord_lt hlt) rfl 0 rfl)
  have Ek4 := Lib.hid (val64 6 (by decide) 87 (by decide) x y _ _ (ord_lt hlt) rfl 1 rfl)
  have Ek6 := Lib.hid (val64 8 (by decide) 89 (by decide) x y _ _ (ord_lt hlt) rfl 0 rfl)
  have Esw := Lib.hid (val64 2 (by decide) 83 (by decide) y x _ _ (ord_gt hlt) rfl 0 rfl)
  have hq : ((x : Int) == (y : Int)) = false := beq_eq_false_iff_ne.2 (by omega)
  clear hn hlt
  have HA := Lib.hid ha
  have HB := Lib.hid hb
  clear hab
  clear ha hb hx hy
  go_enter Tryd.func7, Tryd.ntmps7
  go_wp2_with fail
  refine (examples_any _).mono ?_
  rintro e w0 ⟨rfl, b0⟩
  go_wp2_with fail
  refine (law_two 81 x y _ (by have := HA.out; have := HB.out; omega) (by have := HA.out; have := HB.out; omega) (by decide)).mono ?_
  rintro e w1 ⟨rfl, c1⟩
  have b1 := b0.trans (c1.mono b0.size)
  rw [Eat.out]
  go_wp2_with fail
  refine (law_two 83 x y _ (by have := HA.out; have := HB.out; omega) (by have := HA.out; have := HB.out; omega) (by decide)).mono ?_
  rintro e w2 ⟨rfl, c2⟩
  have b2 := b1.trans (c2.mono b1.size)
  rw [Ek.out]
  go_wp2_with fail
  refine (law_two 85 x y _ (by have := HA.out; have := HB.out; omega) (by have := HA.out; have := HB.out; omega) (by decide)).mono ?_
  rintro e w3 ⟨rfl, c3⟩
  have b3 := b2.trans (c3.mono b2.size)
  rw [Ek2.out]
  go_wp2_with fail
  refine (law_two 82 x y _ (by have := HA.out; have := HB.out; omega) (by have := HA.out; have := HB.out; omega) (by decide)).mono ?_
  rintro e w4 ⟨rfl, c4⟩
  have b4 := b3.trans (c4.mono b3.size)
  rw [Eat1.out]
  go_wp2_with fail
  refine (law_two 87 x y _ (by have := HA.out; have := HB.out; omega) (by have := HA.out; have := HB.out; omega) (by decide)).mono ?_
  rintro e w5 ⟨rfl, c5⟩
  have b5 := b4.trans (c5.mono b4.size)
  rw [Ek4.out]
  go_wp2_with fail
  refine (law_two 89 x y _ (by have := HA.out; have := HB.out; omega) (by have := HA.out; have := HB.out; omega) (by decide)).mono ?_
  rintro e w6 ⟨rfl, c6⟩
  have b6 := b5.trans (c6.mono b5.size)
  rw [Ek6.out]
  go_wp2_with fail
  refine (law_two 83 y x _ (by have := HA.out; have := HB.out; omega) (by have := HA.out; have := HB.out; omega) (by decide)).mono ?_
  rintro e w7 ⟨rfl, c7⟩
  have b7 := b6.trans (c7.mono b6.size)
  rw [Esw.out]
  go_wp2_with fail
  go_ret
  exact ⟨rfl, b7⟩

set_option maxRecDepth 100000 in
set_option maxHeartbeats 1000000 in
theorem tests_ws_gt (x y a b : Nat) (w : World) (hx : x < 2 ^ 64) (hy : y < 2 ^ 64) (hxa : x = a) (hyb : y = b) (hlt : wrap64 (b : Int) < wrap64 (a : Int)) (hab : a ≠ b) :
    Calls Tryd.prog 7 #[.int .u64 x, .int .u64 y, .bool false, .bool true] w fun e w' => e = .returned (.bool true) ∧ Below w.heap.size w w' := by
  subst hxa
  subst hyb
  have ha : x < 18446744073709551616 := by omega
  have hb : y < 18446744073709551616 := by omega
  have hn : (ord (x : Int) (y : Int) == 0) = false := ord_ne (by omega)
  have Eat := Lib.hid (val64 0 (by decide) 81 (by decide) x y _ _ (ord_gt hlt) rfl 0 rfl)
  have Eat1 := Lib.hid (val64 1 (by decide) 82 (by decide) x y _ _ (ord_gt hlt) rfl 1 (by rw [testB_1, hn]; rfl))
  have Ek := Lib.hid (val64 2 (by decide) 83 (by decide) x y _ _ (ord_gt hlt) rfl 0 rfl)
  have Ek2 := Lib.hid (val64 4 (by decide) 85 (by decide) x y _ _ (ord_gt hlt) rfl 1 rfl)
  have Ek4 := Lib.hid (val64 6 (by decide) 87 (by decide) x y _ _ (ord_gt hlt) rfl 0 rfl)
  have Ek6 := Lib.hid (val64 8 (by decide) 89 (by decide) x y _ _ (ord_gt hlt) rfl 1 rfl)
  have Esw := Lib.hid (val64 2 (by decide) 83 (by decide) y x _ _ (ord_lt hlt) rfl 1 rfl)
  have hq : ((x : Int) == (y : Int)) = false := beq_eq_false_iff_ne.2 (by omega)
  clear hn hlt
  have HA := Lib.hid ha
  have HB := Lib.hid hb
  clear hab
  clear ha hb hx hy
  go_enter Tryd.func7, Tryd.ntmps7
  go_wp2_with fail
  refine (examples_any _).mono ?_
  rintro e w0 ⟨rfl, b0⟩
  go_wp2_with fail
  refine (law_two 81 x y _ (by have := HA.out; have := HB.out; omega) (by have := HA.out; have := HB.out; omega) (by decide)).mono ?_
  rintro e w1 ⟨rfl, c1⟩
  have b1 := b0.trans (c1.mono b0.size)
  rw [Eat.out]
  go_wp2_with fail
  refine (law_two 83 x y _ (by have := HA.out; have := HB.out; omega) (by have := HA.out; have := HB.out; omega) (by decide)).mono ?_
  rintro e w2 ⟨rfl, c2⟩
  have b2 := b1.trans (c2.mono b1.size)
  rw [Ek.out]
  go_wp2_with fail
  refine (law_two 85 x y _ (by have := HA.out; have := HB.out; omega) (by have := HA.out; have := HB.out; omega) (by decide)).mono ?_
  rintro e w3 ⟨rfl, c3⟩
  have b3 := b2.trans (c3.mono b2.size)
  rw [Ek2.out]
  go_wp2_with fail
  refine (law_two 82 x y _ (by have := HA.out; have := HB.out; omega) (by have := HA.out; have := HB.out; omega) (by decide)).mono ?_
  rintro e w4 ⟨rfl, c4⟩
  have b4 := b3.trans (c4.mono b3.size)
  rw [Eat1.out]
  go_wp2_with fail
  refine (law_two 87 x y _ (by have := HA.out; have := HB.out; omega) (by have := HA.out; have := HB.out; omega) (by decide)).mono ?_
  rintro e w5 ⟨rfl, c5⟩
  have b5 := b4.trans (c5.mono b4.size)
  rw [Ek4.out]
  go_wp2_with fail
  refine (law_two 89 x y _ (by have := HA.out; have := HB.out; omega) (by have := HA.out; have := HB.out; omega) (by decide)).mono ?_
  rintro e w6 ⟨rfl, c6⟩
  have b6 := b5.trans (c6.mono b5.size)
  rw [Ek6.out]
  go_wp2_with fail
  refine (law_two 83 y x _ (by have := HA.out; have := HB.out; omega) (by have := HA.out; have := HB.out; omega) (by decide)).mono ?_
  rintro e w7 ⟨rfl, c7⟩
  have b7 := b6.trans (c7.mono b6.size)
  rw [Esw.out]
  go_wp2_with fail
  go_ret
  exact ⟨rfl, b7⟩

set_option maxRecDepth 100000 in
set_option maxHeartbeats 1000000 in
theorem tests_wu_eq (x y a b : Nat) (w : World) (hx : x < 2 ^ 64) (hy : y < 2 ^ 64) (hxa : x = a) (hyb : y = b) (hab : a = b) :
    Calls Tryd.prog 7 #[.int .u64 x, .int .u64 y, .bool false, .bool false] w fun e w' => e = .returned (.bool true) ∧ Below w.heap.size w w' := by
  subst hxa
  subst hyb
  have ha : x < 18446744073709551616 := by omega
  have hb : y < 18446744073709551616 := by omega
  subst hab
  have Eat := Lib.hid (val64 0 (by decide) 81 (by decide) x x _ _ (ord_same _) (ord_same _) 1 rfl)
  have Eat1 := Lib.hid (val64 1 (by decide) 82 (by decide) x x _ _ (ord_same _) (ord_same _) 0 rfl)
  have Ek := Lib.hid (val64 3 (by decide) 84 (by decide) x x _ _ (ord_same _) (ord_same _) 0 rfl)
  have Ek2 := Lib.hid (val64 5 (by decide) 86 (by decide) x x _ _ (ord_same _) (ord_same _) 0 rfl)
  have Ek4 := Lib.hid (val64 7 (by decide) 88 (by decide) x x _ _ (ord_same _) (ord_same _) 1 rfl)
  have Ek6 := Lib.hid (val64 9 (by decide) 90 (by decide) x x _ _ (ord_same _) (ord_same _) 1 rfl)
  have Esw := Ek
  have HA := Lib.hid ha
  have HB := Lib.hid hb
  clear ha hb hx hy
  go_enter Tryd.func7, Tryd.ntmps7
  go_wp2_with fail
  refine (examples_any _).mono ?_
  rintro e w0 ⟨rfl, b0⟩
  go_wp2_with fail
  refine (law_two 81 x x _ (by have := HA.out; have := HB.out; omega) (by have := HA.out; have := HB.out; omega) (by decide)).mono ?_
  rintro e w1 ⟨rfl, c1⟩
  have b1 := b0.trans (c1.mono b0.size)
  rw [Eat.out]
  go_wp2_with fail
  refine (law_two 84 x x _ (by have := HA.out; have := HB.out; omega) (by have := HA.out; have := HB.out; omega) (by decide)).mono ?_
  rintro e w2 ⟨rfl, c2⟩
  have b2 := b1.trans (c2.mono b1.size)
  rw [Ek.out]
  go_wp2_with fail
  refine (law_two 86 x x _ (by have := HA.out; have := HB.out; omega) (by have := HA.out; have := HB.out; omega) (by decide)).mono ?_
  rintro e w3 ⟨rfl, c3⟩
  have b3 := b2.trans (c3.mono b2.size)
  rw [Ek2.out]
  go_wp2_with fail
  refine (law_two 82 x x _ (by have := HA.out; have := HB.out; omega) (by have := HA.out; have := HB.out; omega) (by decide)).mono ?_
  rintro e w4 ⟨rfl, c4⟩
  have b4 := b3.trans (c4.mono b3.size)
  rw [Eat1.out]
  go_wp2_with fail
  refine (law_two 88 x x _ (by have := HA.out; have := HB.out; omega) (by have := HA.out; have := HB.out; omega) (by decide)).mono ?_
  rintro e w5 ⟨rfl, c5⟩
  have b5 := b4.trans (c5.mono b4.size)
  rw [Ek4.out]
  go_wp2_with fail
  refine (law_two 90 x x _ (by have := HA.out; have := HB.out; omega) (by have := HA.out; have := HB.out; omega) (by decide)).mono ?_
  rintro e w6 ⟨rfl, c6⟩
  have b6 := b5.trans (c6.mono b5.size)
  rw [Ek6.out]
  go_wp2_with fail
  refine (law_two 84 x x _ (by have := HA.out; have := HB.out; omega) (by have := HA.out; have := HB.out; omega) (by decide)).mono ?_
  rintro e w7 ⟨rfl, c7⟩
  have b7 := b6.trans (c7.mono b6.size)
  rw [Esw.out]
  go_wp2_with fail
  go_ret
  exact ⟨rfl, b7⟩

set_option maxRecDepth 100000 in
set_option maxHeartbeats 1000000 in
theorem tests_wu_lt (x y a b : Nat) (w : World) (hx : x < 2 ^ 64) (hy : y < 2 ^ 64) (hxa : x = a) (hyb : y = b) (hlt : (a : Int) < (b : Int)) (hab : a ≠ b) :
    Calls Tryd.prog 7 #[.int .u64 x, .int .u64 y, .bool false, .bool false] w fun e w' => e = .returned (.bool true) ∧ Below w.heap.size w w' := by
  subst hxa
  subst hyb
  have ha : x < 18446744073709551616 := by omega
  have hb : y < 18446744073709551616 := by omega
  have hn : (ord (wrap64 (x : Int)) (wrap64 (y : Int)) == 0) = false := ord_ne (by unfold wrap64; omega)
  have Eat := Lib.hid (val64 0 (by decide) 81 (by decide) x y _ _ rfl (ord_lt hlt) 0 (by rw [testB_0, hn]; rfl))
  have Eat1 := Lib.hid (val64 1 (by decide) 82 (by decide) x y _ _ rfl (ord_lt hlt) 1 rfl)
  have Ek := Lib.hid (val64 3 (by decide) 84 (by decide) x y _ _ rfl (ord_lt hlt) 1 rfl)
  have Ek2 := Lib.hid (val64 5 (by decide) 86 (by decide) x y _ _ rfl (ord_lt hlt) 0 rfl)
  have Ek4 := Lib.hid (val64 7 (by decide) 88 (by decide) x y _ _ rfl (ord_lt hlt) 1 rfl)
  have Ek6 := Lib.hid (val64 9 (by decide) 90 (by decide) x y _ _ rfl (ord_lt hlt) 0 rfl)
  have Esw := Lib.hid (val64 3 (by decide) 84 (by decide) y x _ _ rfl (ord_gt hlt) 0 rfl)
  have hq : ((x : Int) == (y : Int)) = false := beq_eq_false_iff_ne.2 (by omega)
  clear hn hlt
  have HA := Lib.hid ha
  have HB := Lib.hid hb
  clear hab
  clear ha hb hx hy
  go_enter Tryd.func7, Tryd.ntmps7
  go_wp2_with fail
  refine (examples_any _).mono ?_
  rintro e w0 ⟨rfl, b0⟩
  go_wp2_with fail
  refine (law_two 81 x y _ (by have := HA.out; have := HB.out; omega) (by have := HA.out; have := HB.out; omega) (by decide)).mono ?_
  rintro e w1 ⟨rfl, c1⟩
  have b1 := b0.trans (c1.mono b0.size)
  rw [Eat.out]
  go_wp2_with fail
  refine (law_two 84 x y _ (by have := HA.out; have := HB.out; omega) (by have := HA.out; have := HB.out; omega) (by decide)).mono ?_
  rintro e w2 ⟨rfl, c2⟩
  have b2 := b1.trans (c2.mono b1.size)
  rw [Ek.out]
  go_wp2_with fail
  refine (law_two 86 x y _ (by have := HA.out; have := HB.out; omega) (by have := HA.out; have := HB.out; omega) (by decide)).mono ?_
  rintro e w3 ⟨rfl, c3⟩
  have b3 := b2.trans (c3.mono b2.size)
  rw [Ek2.out]
  go_wp2_with fail
  refine (law_two 82 x y _ (by have := HA.out; have := HB.out; omega) (by have := HA.out; have := HB.out; omega) (by decide)).mono ?_
  rintro e w4 ⟨rfl, c4⟩
  have b4 := b3.trans (c4.mono b3.size)
  rw [Eat1.out]
  go_wp2_with fail
  refine (law_two 88 x y _ (by have := HA.out; have := HB.out; omega) (by have := HA.out; have := HB.out; omega) (by decide)).mono ?_
  rintro e w5 ⟨rfl, c5⟩
  have b5 := b4.trans (c5.mono b4.size)
  rw [Ek4.out]
  go_wp2_with fail
  refine (law_two 90 x y _ (by have := HA.out; have := HB.out; omega) (by have := HA.out; have := HB.out; omega) (by decide)).mono ?_
  rintro e w6 ⟨rfl, c6⟩
  have b6 := b5.trans (c6.mono b5.size)
  rw [Ek6.out]
  go_wp2_with fail
  refine (law_two 84 y x _ (by have := HA.out; have := HB.out; omega) (by have := HA.out; have := HB.out; omega) (by decide)).mono ?_
  rintro e w7 ⟨rfl, c7⟩
  have b7 := b6.trans (c7.mono b6.size)
  rw [Esw.out]
  go_wp2_with fail
  go_ret
  exact ⟨rfl, b7⟩

set_option maxRecDepth 100000 in
set_option maxHeartbeats 1000000 in
theorem tests_wu_gt (x y a b : Nat) (w : World) (hx : x < 2 ^ 64) (hy : y < 2 ^ 64) (hxa : x = a) (hyb : y = b) (hlt : (b : Int) < (a : Int)) (hab : a ≠ b) :
    Calls Tryd.prog 7 #[.int .u64 x, .int .u64 y, .bool false, .bool false] w fun e w' => e = .returned (.bool true) ∧ Below w.heap.size w w' := by
  subst hxa
  subst hyb
  have ha : x < 18446744073709551616 := by omega
  have hb : y < 18446744073709551616 := by omega
  have hn : (ord (wrap64 (x : Int)) (wrap64 (y : Int)) == 0) = false := ord_ne (by unfold wrap64; omega)
  have Eat := Lib.hid (val64 0 (by decide) 81 (by decide) x y _ _ rfl (ord_gt hlt) 0 (by rw [testB_0, hn]; rfl))
  have Eat1 := Lib.hid (val64 1 (by decide) 82 (by decide) x y _ _ rfl (ord_gt hlt) 1 rfl)
  have Ek := Lib.hid (val64 3 (by decide) 84 (by decide) x y _ _ rfl (ord_gt hlt) 0 rfl)
  have Ek2 := Lib.hid (val64 5 (by decide) 86 (by decide) x y _ _ rfl (ord_gt hlt) 1 rfl)
  have Ek4 := Lib.hid (val64 7 (by decide) 88 (by decide) x y _ _ rfl (ord_gt hlt) 0 rfl)
  have Ek6 := Lib.hid (val64 9 (by decide) 90 (by decide) x y _ _ rfl (ord_gt hlt) 1 rfl)
  have Esw := Lib.hid (val64 3 (by decide) 84 (by decide) y x _ _ rfl (ord_lt hlt) 1 rfl)
  have hq : ((x : Int) == (y : Int)) = false := beq_eq_false_iff_ne.2 (by omega)
  clear hn hlt
  have HA := Lib.hid ha
  have HB := Lib.hid hb
  clear hab
  clear ha hb hx hy
  go_enter Tryd.func7, Tryd.ntmps7
  go_wp2_with fail
  refine (examples_any _).mono ?_
  rintro e w0 ⟨rfl, b0⟩
  go_wp2_with fail
  refine (law_two 81 x y _ (by have := HA.out; have := HB.out; omega) (by have := HA.out; have := HB.out; omega) (by decide)).mono ?_
  rintro e w1 ⟨rfl, c1⟩
  have b1 := b0.trans (c1.mono b0.size)
  rw [Eat.out]
  go_wp2_with fail
  refine (law_two 84 x y _ (by have := HA.out; have := HB.out; omega) (by have := HA.out; have := HB.out; omega) (by decide)).mono ?_
  rintro e w2 ⟨rfl, c2⟩
  have b2 := b1.trans (c2.mono b1.size)
  rw [Ek.out]
  go_wp2_with fail
  refine (law_two 86 x y _ (by have := HA.out; have := HB.out; omega) (by have := HA.out; have := HB.out; omega) (by decide)).mono ?_
  rintro e w3 ⟨rfl, c3⟩
  have b3 := b2.trans (c3.mono b2.size)
  rw [Ek2.out]
  go_wp2_with fail
  refine (law_two 82 x y _ (by have := HA.out; have := HB.out; omega) (by have := HA.out; have := HB.out; omega) (by decide)).mono ?_
  rintro e w4 ⟨rfl, c4⟩
  have b4 := b3.trans (c4.mono b3.size)
  rw [Eat1.out]
  go_wp2_with fail
  refine (law_two 88 x y _ (by have := HA.out; have := HB.out; omega) (by have := HA.out; have := HB.out; omega) (by decide)).mono ?_
  rintro e w5 ⟨rfl, c5⟩
  have b5 := b4.trans (c5.mono b4.size)
  rw [Ek4.out]
  go_wp2_with fail
  refine (law_two 90 x y _ (by have := HA.out; have := HB.out; omega) (by have := HA.out; have := HB.out; omega) (by decide)).mono ?_
  rintro e w6 ⟨rfl, c6⟩
  have b6 := b5.trans (c6.mono b5.size)
  rw [Ek6.out]
  go_wp2_with fail
  refine (law_two 84 y x _ (by have := HA.out; have := HB.out; omega) (by have := HA.out; have := HB.out; omega) (by decide)).mono ?_
  rintro e w7 ⟨rfl, c7⟩
  have b7 := b6.trans (c7.mono b6.size)
  rw [Esw.out]
  go_wp2_with fail
  go_ret
  exact ⟨rfl, b7⟩

theorem tests_walk (x y : Nat) (narrow sign : Bool) (w : World) (hx : x < 2 ^ 64) (hy : y < 2 ^ 64) :
    Calls Tryd.prog 7 #[.int .u64 x, .int .u64 y, .bool narrow, .bool sign] w fun e w' => e = .returned (.bool true) ∧ Below w.heap.size w w' := by
  cases narrow
  · cases sign
    · by_cases h : x = y
      · exact tests_wu_eq x y x y w hx hy rfl rfl h
      · rcases (show ((x : Nat) : Int) < ((y : Nat) : Int) ∨ ((y : Nat) : Int) < ((x : Nat) : Int) by omega) with h1 | h1
        · exact tests_wu_lt x y x y w hx hy rfl rfl h1 h
        · exact tests_wu_gt x y x y w hx hy rfl rfl h1 h
    · by_cases h : x = y
      · exact tests_ws_eq x y x y w hx hy rfl rfl h
      · rcases (show wrap64 (x : Nat) < wrap64 (y : Nat) ∨ wrap64 (y : Nat) < wrap64 (x : Nat) by unfold wrap64; omega) with h1 | h1
        · exact tests_ws_lt x y x y w hx hy rfl rfl h1 h
        · exact tests_ws_gt x y x y w hx hy rfl rfl h1 h
  · cases sign
    · by_cases h : (x % 4294967296) = (y % 4294967296)
      · exact tests_nu_eq x y (x % 4294967296) (y % 4294967296) w hx hy rfl rfl h
      · rcases (show (((x % 4294967296) : Nat) : Int) < (((y % 4294967296) : Nat) : Int) ∨ (((y % 4294967296) : Nat) : Int) < (((x % 4294967296) : Nat) : Int) by omega) with h1 | h1
        · exact tests_nu_lt x y (x % 4294967296) (y % 4294967296) w hx hy rfl rfl h1 h
        · exact tests_nu_gt x y (x % 4294967296) (y % 4294967296) w hx hy rfl rfl h1 h
    · by_cases h : (x % 4294967296) = (y % 4294967296)
      · exact tests_ns_eq x y (x % 4294967296) (y % 4294967296) w hx hy rfl rfl h
      · rcases (show wrap32 ((x % 4294967296) : Nat) < wrap32 ((y % 4294967296) : Nat) ∨ wrap32 ((y % 4294967296) : Nat) < wrap32 ((x % 4294967296) : Nat) by unfold wrap32; omega) with h1 | h1
        · exact tests_ns_lt x y (x % 4294967296) (y % 4294967296) w hx hy rfl rfl h1 h
        · exact tests_ns_gt x y (x % 4294967296) (y % 4294967296) w hx hy rfl rfl h1 h
end Go.Proofs.YtebikmnegemggaaDoor.Num
