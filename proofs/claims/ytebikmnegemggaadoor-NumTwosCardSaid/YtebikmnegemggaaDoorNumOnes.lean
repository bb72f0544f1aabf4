/-
  The walk of NumOnes: it answers true. No condition beyond what the theorem names.
-/
import Derived.Test.YtebikmnegemggaaDoorNumCount
import Derived.Test.YtebikmnegemggaaDoorNumEx
namespace Go.Proofs.YtebikmnegemggaaDoor.Num
open Go.RowKit Go.Maps
set_option linter.unusedVariables false

theorem retI {k : IntKind} {a b : Int} (h : a = b) : Ending.returned (.int k a) = .returned (.int k b) := by rw [h]
theorem rtruth_any (b : Bool) (w : World) : Calls Tryd.prog 20 #[.bool b] w fun e w' => e = .returned (.int .u64 (truthA b)) ∧ w = w' := by
  go_enter Tryd.func20, Tryd.ntmps20
  cases b
  · go_wp2_with fail
    go_ret
    exact ⟨rfl, rfl⟩
  · go_wp2_with fail
    go_ret
    exact ⟨rfl, rfl⟩
theorem rcut_32 (a c : Nat) (w : World) (hc : a % 4294967296 = c) : Calls Tryd.prog 21 #[.int .u64 a, .int .i64 32] w fun e w' => e = .returned (.int .u64 (c : Int)) ∧ w = w' := by
  have hi : (a : Int) % 4294967296 = (c : Int) := by omega
  clear hc
  go_enter Tryd.func21, Tryd.ntmps21
  go_wp2_with fail
  go_ret
  exact ⟨retI hi, rfl⟩
theorem rcut_64 (a : Int) (w : World) : Calls Tryd.prog 21 #[.int .u64 a, .int .i64 64] w fun e w' => e = .returned (.int .u64 a) ∧ w = w' := by
  go_enter Tryd.func21, Tryd.ntmps21
  go_wp2_with fail
  go_ret
  exact ⟨rfl, rfl⟩
theorem rsigned_32 (a c : Nat) (w : World) (hc : a % 4294967296 = c) : Calls Tryd.prog 23 #[.int .u64 a, .int .i64 32] w fun e w' => e = .returned (.int .i64 (wrap32 (c : Int))) ∧ w = w' := by
  have hi : (a : Int) % 4294967296 = (c : Int) := by omega
  have hw : wrap64 (wrap32 (c : Int)) = wrap32 (c : Int) := wr2 _ (w32b _).1 (w32b _).2
  clear hc
  go_enter Tryd.func23, Tryd.ntmps23
  go_wp2_with fail
  go_ret
  exact ⟨retI hw, rfl⟩
theorem rsigned_64 (a : Int) (w : World) : Calls Tryd.prog 23 #[.int .u64 a, .int .i64 64] w fun e w' => e = .returned (.int .i64 (wrap64 a)) ∧ w = w' := by
  go_enter Tryd.func23, Tryd.ntmps23
  go_wp2_with fail
  go_ret
  exact ⟨rfl, rfl⟩

set_option maxRecDepth 100000 in
set_option maxHeartbeats 1000000 in
theorem rone_69 (a : Nat) (w : World) (ha : a < 18446744073709551616) : Calls Tryd.prog 15 #[.int .i64 69, .int .u64 a] w fun e w' => e = .returned (.tuple #[.int .u64 (oneA 69 a), .int .i64 0]) ∧ w = w' := by
  obtain ⟨c, hc⟩ : ∃ c, a % 4294967296 = c := ⟨_, rfl⟩
  have HV := Lib.hid (show oneA 69 a = truthA ((c : Int) == 0) by rw [oneA_69, hc])
  have HC := Lib.hid hc
  have HL := Lib.hid (show c < 2 ^ 32 by omega)
  have HA := Lib.hid (show a < 2 ^ 64 by omega)
  clear hc ha
  go_enter Tryd.func15, Tryd.ntmps15
  go_wp2_with fail
  refine (rcut_32 a c _ HC.out).mono ?_
  rintro e w' ⟨rfl, rfl⟩
  go_wp2_with fail
  refine (rtruth_any _ _).mono ?_
  rintro e w' ⟨rfl, rfl⟩
  go_wp2_with fail
  go_ret2
  rw [HV.out]
  exact ⟨rfl, rfl⟩

set_option maxRecDepth 100000 in
set_option maxHeartbeats 1000000 in
theorem rone_80 (a : Nat) (w : World) (ha : a < 18446744073709551616) : Calls Tryd.prog 15 #[.int .i64 80, .int .u64 a] w fun e w' => e = .returned (.tuple #[.int .u64 (oneA 80 a), .int .i64 0]) ∧ w = w' := by
  obtain ⟨c, hc⟩ : ∃ c, a % 4294967296 = c := ⟨_, rfl⟩
  have HV := Lib.hid (show oneA 80 a = truthA ((a : Int) == 0) by rw [oneA_80])
  have HC := Lib.hid hc
  have HL := Lib.hid (show c < 2 ^ 32 by omega)
  have HA := Lib.hid (show a < 2 ^ 64 by omega)
  clear hc ha
  go_enter Tryd.func15, Tryd.ntmps15
  go_wp2_with fail
  refine (rtruth_any _ _).mono ?_
  rintro e w' ⟨rfl, rfl⟩
  go_wp2_with fail
  go_ret2
  rw [HV.out]
  exact ⟨rfl, rfl⟩

set_option maxRecDepth 100000 in
set_option maxHeartbeats 1000000 in
theorem rone_103 (a : Nat) (w : World) (ha : a < 18446744073709551616) : Calls Tryd.prog 15 #[.int .i64 103, .int .u64 a] w fun e w' => e = .returned (.tuple #[.int .u64 (oneA 103 a), .int .i64 0]) ∧ w = w' := by
  obtain ⟨c, hc⟩ : ∃ c, a % 4294967296 = c := ⟨_, rfl⟩
  have HV := Lib.hid (show oneA 103 a = ((32 - Lib.bitLen c : Nat) : Int) by rw [oneA_103, hc])
  have HC := Lib.hid hc
  have HL := Lib.hid (show c < 2 ^ 32 by omega)
  have HA := Lib.hid (show a < 2 ^ 64 by omega)
  clear hc ha
  go_enter Tryd.func15, Tryd.ntmps15
  go_wp2_with fail
  refine (rcut_32 a c _ HC.out).mono ?_
  rintro e w' ⟨rfl, rfl⟩
  go_wp2_with fail
  refine (count_0 c 32 _ (by decide) HL).mono ?_
  rintro e w' ⟨rfl, rfl⟩
  obtain ⟨r, hr⟩ : ∃ r : Int, ((32 - Lib.bitLen c : Nat) : Int) = r := ⟨_, rfl⟩
  rw [hr]
  have HR := Lib.hid hr
  clear hr
  go_wp2_with fail
  go_ret2
  rw [HV.out, HR.out]
  exact ⟨rfl, rfl⟩

set_option maxRecDepth 100000 in
set_option maxHeartbeats 1000000 in
theorem rone_104 (a : Nat) (w : World) (ha : a < 18446744073709551616) : Calls Tryd.prog 15 #[.int .i64 104, .int .u64 a] w fun e w' => e = .returned (.tuple #[.int .u64 (oneA 104 a), .int .i64 0]) ∧ w = w' := by
  obtain ⟨c, hc⟩ : ∃ c, a % 4294967296 = c := ⟨_, rfl⟩
  have HV := Lib.hid (show oneA 104 a = ((Lib.ctz 32 c : Nat) : Int) by rw [oneA_104, hc])
  have HC := Lib.hid hc
  have HL := Lib.hid (show c < 2 ^ 32 by omega)
  have HA := Lib.hid (show a < 2 ^ 64 by omega)
  clear hc ha
  go_enter Tryd.func15, Tryd.ntmps15
  go_wp2_with fail
  refine (rcut_32 a c _ HC.out).mono ?_
  rintro e w' ⟨rfl, rfl⟩
  go_wp2_with fail
  refine (count_1 c 32 _ (by decide) HL).mono ?_
  rintro e w' ⟨rfl, rfl⟩
  obtain ⟨r, hr⟩ : ∃ r : Int, ((Lib.ctz 32 c : Nat) : Int) = r := ⟨_, rfl⟩
  rw [hr]
  have HR := Lib.hid hr
  clear hr
  go_wp2_with fail
  go_ret2
  rw [HV.out, HR.out]
  exact ⟨rfl, rfl⟩

set_option maxRecDepth 100000 in
set_option maxHeartbeats 1000000 in
theorem rone_105 (a : Nat) (w : World) (ha : a < 18446744073709551616) : Calls Tryd.prog 15 #[.int .i64 105, .int .u64 a] w fun e w' => e = .returned (.tuple #[.int .u64 (oneA 105 a), .int .i64 0]) ∧ w = w' := by
  obtain ⟨c, hc⟩ : ∃ c, a % 4294967296 = c := ⟨_, rfl⟩
  have HV := Lib.hid (show oneA 105 a = ((pc 32 c : Nat) : Int) by rw [oneA_105, hc])
  have HC := Lib.hid hc
  have HL := Lib.hid (show c < 2 ^ 32 by omega)
  have HA := Lib.hid (show a < 2 ^ 64 by omega)
  clear hc ha
  go_enter Tryd.func15, Tryd.ntmps15
  go_wp2_with fail
  refine (rcut_32 a c _ HC.out).mono ?_
  rintro e w' ⟨rfl, rfl⟩
  go_wp2_with fail
  refine (count_2 c 32 _ (by decide) HL).mono ?_
  rintro e w' ⟨rfl, rfl⟩
  obtain ⟨r, hr⟩ : ∃ r : Int, ((pc 32 c : Nat) : Int) = r := ⟨_, rfl⟩
  rw [hr]
  have HR := Lib.hid hr
  clear hr
  go_wp2_with fail
  go_ret2
  rw [HV.out, HR.out]
  exact ⟨rfl, rfl⟩

set_option maxRecDepth 100000 in
set_option maxHeartbeats 1000000 in
theorem rone_121 (a : Nat) (w : World) (ha : a < 18446744073709551616) : Calls Tryd.prog 15 #[.int .i64 121, .int .u64 a] w fun e w' => e = .returned (.tuple #[.int .u64 (oneA 121 a), .int .i64 0]) ∧ w = w' := by
  obtain ⟨c, hc⟩ : ∃ c, a % 4294967296 = c := ⟨_, rfl⟩
  have HV := Lib.hid (show oneA 121 a = ((64 - Lib.bitLen a : Nat) : Int) by rw [oneA_121])
  have HC := Lib.hid hc
  have HL := Lib.hid (show c < 2 ^ 32 by omega)
  have HA := Lib.hid (show a < 2 ^ 64 by omega)
  clear hc ha
  go_enter Tryd.func15, Tryd.ntmps15
  go_wp2_with fail
  refine (count_0 a 64 _ (by decide) HA).mono ?_
  rintro e w' ⟨rfl, rfl⟩
  obtain ⟨r, hr⟩ : ∃ r : Int, ((64 - Lib.bitLen a : Nat) : Int) = r := ⟨_, rfl⟩
  rw [hr]
  have HR := Lib.hid hr
  clear hr
  go_wp2_with fail
  go_ret2
  rw [HV.out, HR.out]
  exact ⟨rfl, rfl⟩

set_option maxRecDepth 100000 in
set_option maxHeartbeats 1000000 in
theorem rone_122 (a : Nat) (w : World) (ha : a < 18446744073709551616) : Calls Tryd.prog 15 #[.int .i64 122, .int .u64 a] w fun e w' => e = .returned (.tuple #[.int .u64 (oneA 122 a), .int .i64 0]) ∧ w = w' := by
  obtain ⟨c, hc⟩ : ∃ c, a % 4294967296 = c := ⟨_, rfl⟩
  have HV := Lib.hid (show oneA 122 a = ((Lib.ctz 64 a : Nat) : Int) by rw [oneA_122])
  have HC := Lib.hid hc
  have HL := Lib.hid (show c < 2 ^ 32 by omega)
  have HA := Lib.hid (show a < 2 ^ 64 by omega)
  clear hc ha
  go_enter Tryd.func15, Tryd.ntmps15
  go_wp2_with fail
  refine (count_1 a 64 _ (by decide) HA).mono ?_
  rintro e w' ⟨rfl, rfl⟩
  obtain ⟨r, hr⟩ : ∃ r : Int, ((Lib.ctz 64 a : Nat) : Int) = r := ⟨_, rfl⟩
  rw [hr]
  have HR := Lib.hid hr
  clear hr
  go_wp2_with fail
  go_ret2
  rw [HV.out, HR.out]
  exact ⟨rfl, rfl⟩

set_option maxRecDepth 100000 in
set_option maxHeartbeats 1000000 in
theorem rone_123 (a : Nat) (w : World) (ha : a < 18446744073709551616) : Calls Tryd.prog 15 #[.int .i64 123, .int .u64 a] w fun e w' => e = .returned (.tuple #[.int .u64 (oneA 123 a), .int .i64 0]) ∧ w = w' := by
  obtain ⟨c, hc⟩ : ∃ c, a % 4294967296 = c := ⟨_, rfl⟩
  have HV := Lib.hid (show oneA 123 a = ((pc 64 a : Nat) : Int) by rw [oneA_123])
  have HC := Lib.hid hc
  have HL := Lib.hid (show c < 2 ^ 32 by omega)
  have HA := Lib.hid (show a < 2 ^ 64 by omega)
  clear hc ha
  go_enter Tryd.func15, Tryd.ntmps15
  go_wp2_with fail
  refine (count_2 a 64 _ (by decide) HA).mono ?_
  rintro e w' ⟨rfl, rfl⟩
  obtain ⟨r, hr⟩ : ∃ r : Int, ((pc 64 a : Nat) : Int) = r := ⟨_, rfl⟩
  rw [hr]
  have HR := Lib.hid hr
  clear hr
  go_wp2_with fail
  go_ret2
  rw [HV.out, HR.out]
  exact ⟨rfl, rfl⟩

set_option maxRecDepth 100000 in
set_option maxHeartbeats 1000000 in
theorem rone_167 (a : Nat) (w : World) (ha : a < 18446744073709551616) : Calls Tryd.prog 15 #[.int .i64 167, .int .u64 a] w fun e w' => e = .returned (.tuple #[.int .u64 (oneA 167 a), .int .i64 0]) ∧ w = w' := by
  obtain ⟨c, hc⟩ : ∃ c, a % 4294967296 = c := ⟨_, rfl⟩
  have HV := Lib.hid (show oneA 167 a = (c : Int) by rw [oneA_167, hc])
  have HC := Lib.hid hc
  have HL := Lib.hid (show c < 2 ^ 32 by omega)
  have HA := Lib.hid (show a < 2 ^ 64 by omega)
  clear hc ha
  go_enter Tryd.func15, Tryd.ntmps15
  go_wp2_with fail
  refine (rcut_32 a c _ HC.out).mono ?_
  rintro e w' ⟨rfl, rfl⟩
  go_wp2_with fail
  go_ret2
  rw [HV.out]
  exact ⟨rfl, rfl⟩

set_option maxRecDepth 100000 in
set_option maxHeartbeats 1000000 in
theorem rone_172 (a : Nat) (w : World) (ha : a < 18446744073709551616) : Calls Tryd.prog 15 #[.int .i64 172, .int .u64 a] w fun e w' => e = .returned (.tuple #[.int .u64 (oneA 172 a), .int .i64 0]) ∧ w = w' := by
  obtain ⟨c, hc⟩ : ∃ c, a % 4294967296 = c := ⟨_, rfl⟩
  have HV := Lib.hid (show oneA 172 a = IntKind.u64.wrap (wrap32 (c : Int)) by rw [oneA_172, hc])
  have HC := Lib.hid hc
  have HL := Lib.hid (show c < 2 ^ 32 by omega)
  have HA := Lib.hid (show a < 2 ^ 64 by omega)
  clear hc ha
  go_enter Tryd.func15, Tryd.ntmps15
  go_wp2_with fail
  refine (rsigned_32 a c _ HC.out).mono ?_
  rintro e w' ⟨rfl, rfl⟩
  go_wp2_with fail
  go_ret2
  rw [HV.out]
  exact ⟨rfl, rfl⟩

set_option maxRecDepth 100000 in
set_option maxHeartbeats 1000000 in
theorem rone_173 (a : Nat) (w : World) (ha : a < 18446744073709551616) : Calls Tryd.prog 15 #[.int .i64 173, .int .u64 a] w fun e w' => e = .returned (.tuple #[.int .u64 (oneA 173 a), .int .i64 0]) ∧ w = w' := by
  obtain ⟨c, hc⟩ : ∃ c, a % 4294967296 = c := ⟨_, rfl⟩
  have HV := Lib.hid (show oneA 173 a = (c : Int) by rw [oneA_173, hc])
  have HC := Lib.hid hc
  have HL := Lib.hid (show c < 2 ^ 32 by omega)
  have HA := Lib.hid (show a < 2 ^ 64 by omega)
  clear hc ha
  go_enter Tryd.func15, Tryd.ntmps15
  go_wp2_with fail
  refine (rcut_32 a c _ HC.out).mono ?_
  rintro e w' ⟨rfl, rfl⟩
  go_wp2_with fail
  go_ret2
  rw [HV.out]
  exact ⟨rfl, rfl⟩

set_option maxRecDepth 100000 in
set_option maxHeartbeats 1000000 in
theorem rone_none (op : Int) (a : Int) (w : World) (hn : ¬ Maps.has onesD (.int .i64 op) = true) : Calls Tryd.prog 15 #[.int .i64 op, .int .u64 a] w fun e w' => e = .returned (.tuple #[.int .u64 0, .int .i64 3]) ∧ w = w' := by
  have n69 : (op == 69) = false := beq_eq_false_iff_ne.2 (fun h => hn (by subst h; exact has_69))
  have n80 : (op == 80) = false := beq_eq_false_iff_ne.2 (fun h => hn (by subst h; exact has_80))
  have n103 : (op == 103) = false := beq_eq_false_iff_ne.2 (fun h => hn (by subst h; exact has_103))
  have n104 : (op == 104) = false := beq_eq_false_iff_ne.2 (fun h => hn (by subst h; exact has_104))
  have n105 : (op == 105) = false := beq_eq_false_iff_ne.2 (fun h => hn (by subst h; exact has_105))
  have n121 : (op == 121) = false := beq_eq_false_iff_ne.2 (fun h => hn (by subst h; exact has_121))
  have n122 : (op == 122) = false := beq_eq_false_iff_ne.2 (fun h => hn (by subst h; exact has_122))
  have n123 : (op == 123) = false := beq_eq_false_iff_ne.2 (fun h => hn (by subst h; exact has_123))
  have n167 : (op == 167) = false := beq_eq_false_iff_ne.2 (fun h => hn (by subst h; exact has_167))
  have n172 : (op == 172) = false := beq_eq_false_iff_ne.2 (fun h => hn (by subst h; exact has_172))
  have n173 : (op == 173) = false := beq_eq_false_iff_ne.2 (fun h => hn (by subst h; exact has_173))
  clear hn
  go_enter Tryd.func15, Tryd.ntmps15
  go_wp2_with fail
  go_ret2
  exact ⟨rfl, rfl⟩
theorem one_has (op : Int) (a : Nat) (w : World) (ha : a < 18446744073709551616) (hT : Tabs w) (h : Maps.has onesD (.int .i64 op) = true) :
    Calls Tryd.prog 14 #[.int .i64 op, .int .u64 a] w fun e w' => e = .returned (.tuple #[.int .u64 (oneA op a), .int .i64 0]) ∧ Below w.heap.size w w' := by
  rcases has_any op h with rfl | rfl | rfl | rfl | rfl | rfl | rfl | rfl | rfl | rfl | rfl
  · exact one_69 a w ha hT
  · exact one_80 a w ha hT
  · exact one_103 a w ha hT
  · exact one_104 a w ha hT
  · exact one_105 a w ha hT
  · exact one_121 a w ha hT
  · exact one_122 a w ha hT
  · exact one_123 a w ha hT
  · exact one_167 a w ha hT
  · exact one_172 a w ha hT
  · exact one_173 a w ha hT
theorem rone_has (op : Int) (a : Nat) (w : World) (ha : a < 18446744073709551616) (h : Maps.has onesD (.int .i64 op) = true) :
    Calls Tryd.prog 15 #[.int .i64 op, .int .u64 a] w fun e w' => e = .returned (.tuple #[.int .u64 (oneA op a), .int .i64 0]) ∧ w = w' := by
  rcases has_any op h with rfl | rfl | rfl | rfl | rfl | rfl | rfl | rfl | rfl | rfl | rfl
  · exact rone_69 a w ha
  · exact rone_80 a w ha
  · exact rone_103 a w ha
  · exact rone_104 a w ha
  · exact rone_105 a w ha
  · exact rone_121 a w ha
  · exact rone_122 a w ha
  · exact rone_123 a w ha
  · exact rone_167 a w ha
  · exact rone_172 a w ha
  · exact rone_173 a w ha

theorem wf_of (p : Int) (h0 : 0 ≤ p) (h1 : p < 9223372036854775808) : (Lit.int .i64 p).wf = true := by
  simp [Lit.wf, IntKind.min, IntKind.max, IntKind.signed, IntKind.bits]
  omega
/-- pick answers a number that is not negative -/
def Picked (w : World) (e : Ending) (w' : World) : Prop := ∃ p : Int, 0 ≤ p ∧ p < 9223372036854775808 ∧ e = .returned (.int .i64 p) ∧ w = w'

set_option maxRecDepth 100000 in
set_option maxHeartbeats 1000000 in
theorem pick_p0 (op : Int) (which : Nat) (w : World) (h0 : 0 ≤ op) (h1 : -9223372036854775808 ≤ op) (h2 : op < 9223372036854775808) (hw : (which : Int) % 6 = 0) :
    Calls Tryd.prog 13 #[.int .i64 op, .int .u8 which] w (Picked w) := by
  go_enter Tryd.func13, Tryd.ntmps13
  go_wp2_with fail
  go_ret
  exact ⟨69 + op % 70, by omega, by omega, rfl, rfl⟩

set_option maxRecDepth 100000 in
set_option maxHeartbeats 1000000 in
theorem pick_p1 (op : Int) (which : Nat) (w : World) (h0 : 0 ≤ op) (h1 : -9223372036854775808 ≤ op) (h2 : op < 9223372036854775808) (hw : (which : Int) % 6 = 1) :
    Calls Tryd.prog 13 #[.int .i64 op, .int .u8 which] w (Picked w) := by
  go_enter Tryd.func13, Tryd.ntmps13
  go_wp2_with fail
  go_ret
  exact ⟨106 + op % 15, by omega, by omega, rfl, rfl⟩

set_option maxRecDepth 100000 in
set_option maxHeartbeats 1000000 in
theorem pick_p2 (op : Int) (which : Nat) (w : World) (h0 : 0 ≤ op) (h1 : -9223372036854775808 ≤ op) (h2 : op < 9223372036854775808) (hw : (which : Int) % 6 = 2) :
    Calls Tryd.prog 13 #[.int .i64 op, .int .u8 which] w (Picked w) := by
  go_enter Tryd.func13, Tryd.ntmps13
  go_wp2_with fail
  go_ret
  exact ⟨106 + op % 15, by omega, by omega, rfl, rfl⟩

set_option maxRecDepth 100000 in
set_option maxHeartbeats 1000000 in
theorem pick_p3 (op : Int) (which : Nat) (w : World) (h0 : 0 ≤ op) (h1 : -9223372036854775808 ≤ op) (h2 : op < 9223372036854775808) (hw : (which : Int) % 6 = 3) :
    Calls Tryd.prog 13 #[.int .i64 op, .int .u8 which] w (Picked w) := by
  go_enter Tryd.func13, Tryd.ntmps13
  go_wp2_with fail
  go_ret
  exact ⟨124 + op % 15, by omega, by omega, rfl, rfl⟩

set_option maxRecDepth 100000 in
set_option maxHeartbeats 1000000 in
theorem pick_p4 (op : Int) (which : Nat) (w : World) (h0 : 0 ≤ op) (h1 : -9223372036854775808 ≤ op) (h2 : op < 9223372036854775808) (hw : (which : Int) % 6 = 4) :
    Calls Tryd.prog 13 #[.int .i64 op, .int .u8 which] w (Picked w) := by
  go_enter Tryd.func13, Tryd.ntmps13
  go_wp2_with fail
  go_ret
  exact ⟨124 + op % 15, by omega, by omega, rfl, rfl⟩

set_option maxRecDepth 100000 in
set_option maxHeartbeats 1000000 in
theorem pick_p5 (op : Int) (which : Nat) (w : World) (h0 : 0 ≤ op) (h1 : -9223372036854775808 ≤ op) (h2 : op < 9223372036854775808) (hw : (which : Int) % 6 = 5) :
    Calls Tryd.prog 13 #[.int .i64 op, .int .u8 which] w (Picked w) := by
  go_enter Tryd.func13, Tryd.ntmps13
  go_wp2_with fail
  go_ret
  exact ⟨op, by omega, by omega, rfl, rfl⟩

set_option maxRecDepth 100000 in
set_option maxHeartbeats 1000000 in
theorem pick_n0 (op : Int) (which : Nat) (m : Nat) (hm : -(op + 1) = (m : Int)) (hm2 : m < 9223372036854775808) (w : World) (h0 : op < 0) (h1 : -9223372036854775808 ≤ op) (h2 : op < 9223372036854775808) (hw : (which : Int) % 6 = 0) :
    Calls Tryd.prog 13 #[.int .i64 op, .int .u8 which] w (Picked w) := by
  go_enter Tryd.func13, Tryd.ntmps13
  go_wp2_with fail
  go_ret
  exact ⟨69 + (m : Int) % 70, by omega, by omega, rfl, rfl⟩

set_option maxRecDepth 100000 in
set_option maxHeartbeats 1000000 in
theorem pick_n1 (op : Int) (which : Nat) (m : Nat) (hm : -(op + 1) = (m : Int)) (hm2 : m < 9223372036854775808) (w : World) (h0 : op < 0) (h1 : -9223372036854775808 ≤ op) (h2 : op < 9223372036854775808) (hw : (which : Int) % 6 = 1) :
    Calls Tryd.prog 13 #[.int .i64 op, .int .u8 which] w (Picked w) := by
  go_enter Tryd.func13, Tryd.ntmps13
  go_wp2_with fail
  go_ret
  exact ⟨106 + (m : Int) % 15, by omega, by omega, rfl, rfl⟩

set_option maxRecDepth 100000 in
set_option maxHeartbeats 1000000 in
theorem pick_n2 (op : Int) (which : Nat) (m : Nat) (hm : -(op + 1) = (m : Int)) (hm2 : m < 9223372036854775808) (w : World) (h0 : op < 0) (h1 : -9223372036854775808 ≤ op) (h2 : op < 9223372036854775808) (hw : (which : Int) % 6 = 2) :
    Calls Tryd.prog 13 #[.int .i64 op, .int .u8 which] w (Picked w) := by
  go_enter Tryd.func13, Tryd.ntmps13
  go_wp2_with fail
  go_ret
  exact ⟨106 + (m : Int) % 15, by omega, by omega, rfl, rfl⟩

set_option maxRecDepth 100000 in
set_option maxHeartbeats 1000000 in
theorem pick_n3 (op : Int) (which : Nat) (m : Nat) (hm : -(op + 1) = (m : Int)) (hm2 : m < 9223372036854775808) (w : World) (h0 : op < 0) (h1 : -9223372036854775808 ≤ op) (h2 : op < 9223372036854775808) (hw : (which : Int) % 6 = 3) :
    Calls Tryd.prog 13 #[.int .i64 op, .int .u8 which] w (Picked w) := by
  go_enter Tryd.func13, Tryd.ntmps13
  go_wp2_with fail
  go_ret
  exact ⟨124 + (m : Int) % 15, by omega, by omega, rfl, rfl⟩

set_option maxRecDepth 100000 in
set_option maxHeartbeats 1000000 in
theorem pick_n4 (op : Int) (which : Nat) (m : Nat) (hm : -(op + 1) = (m : Int)) (hm2 : m < 9223372036854775808) (w : World) (h0 : op < 0) (h1 : -9223372036854775808 ≤ op) (h2 : op < 9223372036854775808) (hw : (which : Int) % 6 = 4) :
    Calls Tryd.prog 13 #[.int .i64 op, .int .u8 which] w (Picked w) := by
  go_enter Tryd.func13, Tryd.ntmps13
  go_wp2_with fail
  go_ret
  exact ⟨124 + (m : Int) % 15, by omega, by omega, rfl, rfl⟩

set_option maxRecDepth 100000 in
set_option maxHeartbeats 1000000 in
theorem pick_n5 (op : Int) (which : Nat) (m : Nat) (hm : -(op + 1) = (m : Int)) (hm2 : m < 9223372036854775808) (w : World) (h0 : op < 0) (h1 : -9223372036854775808 ≤ op) (h2 : op < 9223372036854775808) (hw : (which : Int) % 6 = 5) :
    Calls Tryd.prog 13 #[.int .i64 op, .int .u8 which] w (Picked w) := by
  go_enter Tryd.func13, Tryd.ntmps13
  go_wp2_with fail
  go_ret
  exact ⟨(m : Int), by omega, by omega, rfl, rfl⟩
theorem pick_any (op : Int) (which : Nat) (w : World) (h1 : -9223372036854775808 ≤ op) (h2 : op < 9223372036854775808) :
    Calls Tryd.prog 13 #[.int .i64 op, .int .u8 which] w (Picked w) := by
  by_cases h0 : 0 ≤ op
  · rcases (show (which : Int) % 6 = 0 ∨ (which : Int) % 6 = 1 ∨ (which : Int) % 6 = 2 ∨ (which : Int) % 6 = 3 ∨ (which : Int) % 6 = 4 ∨ (which : Int) % 6 = 5 by omega) with h | h | h | h | h | h
    · exact pick_p0 op which w h0 h1 h2 h
    · exact pick_p1 op which w h0 h1 h2 h
    · exact pick_p2 op which w h0 h1 h2 h
    · exact pick_p3 op which w h0 h1 h2 h
    · exact pick_p4 op which w h0 h1 h2 h
    · exact pick_p5 op which w h0 h1 h2 h
  · obtain ⟨m, hm⟩ := Int.eq_ofNat_of_zero_le (show 0 ≤ -(op + 1) by omega)
    have hm2 : m < 9223372036854775808 := by omega
    rcases (show (which : Int) % 6 = 0 ∨ (which : Int) % 6 = 1 ∨ (which : Int) % 6 = 2 ∨ (which : Int) % 6 = 3 ∨ (which : Int) % 6 = 4 ∨ (which : Int) % 6 = 5 by omega) with h | h | h | h | h | h
    · exact pick_n0 op which m hm hm2 w (by omega) h1 h2 h
    · exact pick_n1 op which m hm hm2 w (by omega) h1 h2 h
    · exact pick_n2 op which m hm hm2 w (by omega) h1 h2 h
    · exact pick_n3 op which m hm hm2 w (by omega) h1 h2 h
    · exact pick_n4 op which m hm hm2 w (by omega) h1 h2 h
    · exact pick_n5 op which m hm hm2 w (by omega) h1 h2 h

set_option maxRecDepth 100000 in
set_option maxHeartbeats 1000000 in
theorem ones_walk (op : Int) (which a : Nat) (w : World) (h1 : -9223372036854775808 ≤ op) (h2 : op < 9223372036854775808) (ha : a < 18446744073709551616) (hT : Tabs w) :
    Calls Tryd.prog 3 #[.int .i64 op, .int .u8 which, .int .u64 a] w fun e w' => e = .returned (.bool true) ∧ Below w.heap.size w w' := by
  have HA := Lib.hid ha
  have HT := Lib.hid hT
  clear ha hT
  go_enter Tryd.func3, Tryd.ntmps3
  go_wp2_with fail
  refine (examples_any _).mono ?_
  rintro e w0 ⟨rfl, b0⟩
  go_wp2_with fail
  refine (pick_any op which _ h1 h2).mono ?_
  rintro e w1 ⟨p, p0, p1, rfl, rfl⟩
  clear h1 h2
  by_cases hh : Maps.has onesD (.int .i64 p) = true
  · have HH := Lib.hid hh
    clear hh
    obtain ⟨v, hv⟩ : ∃ v, oneA p a = v := ⟨_, rfl⟩
    have HV := Lib.hid hv
    clear hv
    go_wp2_with fail
    refine (one_has p a _ HA.out (tabs_later HT.out b0) HH.out).mono ?_
    rintro e w2 ⟨rfl, c2⟩
    rw [HV.out]
    have b2 := b0.trans (c2.mono b0.size)
    go_wp2_with fail
    refine (rone_has p a _ HA.out HH.out).mono ?_
    rintro e w3 ⟨rfl, rfl⟩
    rw [HV.out]
    go_wp2_with fail
    go_ret
    exact ⟨rfl, b2⟩
  · have HH := Lib.hid hh
    have hf : Maps.has onesD (.int .i64 p) = false := by simpa using hh
    have HF := Lib.hid hf
    clear hh hf
    go_wp2_with fail
    refine (one_none p a _ (wf_of p p0 p1) HF.out).mono ?_
    rintro e w2 ⟨rfl, c2⟩
    have b2 := b0.trans (c2.mono b0.size)
    go_wp2_with fail
    refine (rone_none p a _ HH.out).mono ?_
    rintro e w3 ⟨rfl, rfl⟩
    go_wp2_with fail
    go_ret
    exact ⟨rfl, b2⟩
end Go.Proofs.YtebikmnegemggaaDoor.Num
