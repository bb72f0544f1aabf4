/-
  What num.ones' functions answer. No condition beyond what each theorem names.
-/
import Derived.Test.YtebikmnegemggaaDoorNumPopWalk
import Derived.Test.YtebikmnegemggaaDoorNumOne
import Derived.WalkSmall
namespace Go.Proofs.YtebikmnegemggaaDoor.Num
open Go.RowKit Go.Maps
set_option linter.unusedVariables false

theorem bl32 (a : Nat) (h : a < 4294967296) : Lib.bitLen a ≤ 32 := Lib.bitLen_le a 32 (by omega) (by omega)
theorem bl64 (a : Nat) (h : a < 18446744073709551616) : Lib.bitLen a ≤ 64 := Lib.bitLen_le a 64 (by omega) (by omega)
theorem ctz_le (n x : Nat) (h : x < 2 ^ n) : Lib.ctz n x ≤ n := by
  by_cases h0 : x = 0
  · subst h0; exact Nat.le_refl _
  · exact Nat.le_of_lt (Lib.lowest_bit n x h0 h).2

/-- what is done with one number -/
def oneA (op : Int) (a : Nat) : Int :=
  if op = 69 then truthA ((((a % 4294967296 : Nat) : Int)) == 0)
  else if op = 80 then truthA ((a : Int) == 0)
  else if op = 103 then ((32 - Lib.bitLen (a % 4294967296) : Nat) : Int)
  else if op = 104 then (Lib.ctz 32 (a % 4294967296) : Int)
  else if op = 105 then ((pc 32 (a % 4294967296) : Nat) : Int)
  else if op = 121 then ((64 - Lib.bitLen a : Nat) : Int)
  else if op = 122 then (Lib.ctz 64 a : Int)
  else if op = 123 then ((pc 64 a : Nat) : Int)
  else if op = 167 ∨ op = 173 then ((a % 4294967296 : Nat) : Int)
  else IntKind.u64.wrap (wrap32 (((a % 4294967296 : Nat) : Int)))

def Quiet1 (w : World) (v : Int) (e : Ending) (w' : World) : Prop := e = .returned (.int .u64 v) ∧ ∃ n, w' = w.drewN n

set_option maxHeartbeats 1000000 in
theorem f1_any (a : Nat) (w : World) : Calls Tryd.prog 35 #[.int .u64 a] w (Quiet1 w (oneA 69 a)) := by
  obtain ⟨c, hc⟩ : ∃ c : Nat, (a : Int) % 4294967296 = (c : Int) := ⟨a % 4294967296, by omega⟩
  have HV := Lib.hid (show oneA 69 a = truthA ((c : Int) == 0) by unfold oneA; rw [if_pos rfl, show (((a % 4294967296 : Nat) : Int)) = (c : Int) by omega])
  go_enter Tryd.func35, Tryd.ntmps35
  go_wp2_with fail
  refine (truth_any _ _).mono ?_
  rintro e w' ⟨rfl, rfl⟩
  go_wp2_with fail
  go_ret
  exact ⟨by rw [HV.out]; rfl, 0, rfl⟩
set_option maxHeartbeats 1000000 in
theorem f2_any (a : Nat) (w : World) : Calls Tryd.prog 36 #[.int .u64 a] w (Quiet1 w (oneA 80 a)) := by
  have HV := Lib.hid (show oneA 80 a = truthA ((a : Int) == 0) by unfold oneA; rw [if_neg (by decide), if_pos rfl])
  go_enter Tryd.func36, Tryd.ntmps36
  go_wp2_with fail
  refine (truth_any _ _).mono ?_
  rintro e w' ⟨rfl, rfl⟩
  go_wp2_with fail
  go_ret
  exact ⟨by rw [HV.out]; rfl, 0, rfl⟩
set_option maxHeartbeats 1000000 in
theorem f3_any (a : Nat) (w : World) : Calls Tryd.prog 37 #[.int .u64 a] w (Quiet1 w (oneA 103 a)) := by
  obtain ⟨c, hc⟩ : ∃ c : Nat, (a : Int) % 4294967296 = (c : Int) := ⟨a % 4294967296, by omega⟩
  obtain ⟨r, hr⟩ : ∃ r : Nat, 32 - Lib.bitLen c = r := ⟨_, rfl⟩
  have hbl := bl32 c (by omega)
  have h5 : (32 : Int) - (Lib.bitLen (c : Int).toNat : Int) = (r : Int) := by rw [Int.toNat_natCast]; omega
  have HV := Lib.hid (show oneA 103 a = (r : Int) by unfold oneA; rw [if_neg (by decide), if_neg (by decide), if_pos rfl, show a % 4294967296 = c by omega, hr])
  have hr2 : r ≤ 32 := by omega
  have HC := Lib.hid (show (0 : Int) ≤ c ∧ (c : Int) ≤ 4294967295 by omega)
  clear hbl hr
  go_enter Tryd.func37, Tryd.ntmps37
  go_wp2_with fail
  refine (Tryd.bits_LeadingZeros32 (c : Int) _ HC.out.1 HC.out.2).mono ?_
  rintro e w' ⟨rfl, rfl⟩
  rw [h5]
  clear h5
  go_wp2_with fail
  go_ret
  exact ⟨by rw [HV.out]; rfl, 0, rfl⟩
set_option maxHeartbeats 1000000 in
theorem f4_any (a : Nat) (w : World) (hT : TabAt 0 Lib.deBruijn32tab w) : Calls Tryd.prog 39 #[.int .u64 a] w (Quiet1 w (oneA 104 a)) := by
  obtain ⟨c, hc⟩ : ∃ c : Nat, (a : Int) % 4294967296 = (c : Int) := ⟨a % 4294967296, by omega⟩
  have hbl := ctz_le 32 c (by omega)
  obtain ⟨r, hr⟩ : ∃ r : Nat, Lib.ctz 32 c = r := ⟨_, rfl⟩
  have HV := Lib.hid (show oneA 104 a = (r : Int) by unfold oneA; rw [if_neg (by decide), if_neg (by decide), if_neg (by decide), if_pos rfl, show a % 4294967296 = c by omega, hr])
  have HR := Lib.hid hr
  have hr2 : r ≤ 32 := by omega
  have HC := Lib.hid (show c < 4294967296 by omega)
  have HT := Lib.hid hT
  clear hbl hr hT
  go_enter Tryd.func39, Tryd.ntmps39
  go_wp2_with fail
  refine (Tryd.bits_TrailingZeros32 c HC.out _ (fun _ => HT.out)).mono ?_
  rintro e w' ⟨rfl, rfl⟩
  rw [HR.out]
  go_wp2_with fail
  go_ret
  exact ⟨by rw [HV.out]; rfl, 0, rfl⟩
set_option maxHeartbeats 1000000 in
theorem f5_any (a : Nat) (w : World) : Calls Tryd.prog 41 #[.int .u64 a] w (Quiet1 w (oneA 105 a)) := by
  obtain ⟨c, hc⟩ : ∃ c : Nat, (a : Int) % 4294967296 = (c : Int) := ⟨a % 4294967296, by omega⟩
  have hbl := pc_le 32 c
  obtain ⟨r, hr⟩ : ∃ r : Nat, pc 32 c = r := ⟨_, rfl⟩
  have HV := Lib.hid (show oneA 105 a = (r : Int) by unfold oneA; rw [if_neg (by decide), if_neg (by decide), if_neg (by decide), if_neg (by decide), if_pos rfl, show a % 4294967296 = c by omega, hr])
  have HR := Lib.hid hr
  have hr2 : r ≤ 32 := by omega
  have HC := Lib.hid (show c < 4294967296 by omega)
  clear hbl hr
  go_enter Tryd.func41, Tryd.ntmps41
  go_wp2_with fail
  refine (ones32_any' c _ HC.out).mono ?_
  rintro e w' ⟨rfl, n, rfl⟩
  rw [HR.out]
  go_wp2_with fail
  go_ret
  exact ⟨by rw [HV.out]; rfl, n, rfl⟩
set_option maxHeartbeats 1000000 in
theorem f6_any (a : Nat) (w : World) (ha : a < 18446744073709551616) : Calls Tryd.prog 43 #[.int .u64 a] w (Quiet1 w (oneA 121 a)) := by
  obtain ⟨r, hr⟩ : ∃ r : Nat, 64 - Lib.bitLen a = r := ⟨_, rfl⟩
  have hbl := bl64 a ha
  have h5 : (64 : Int) - (Lib.bitLen (a : Int).toNat : Int) = (r : Int) := by rw [Int.toNat_natCast]; omega
  have HV := Lib.hid (show oneA 121 a = (r : Int) by unfold oneA; rw [if_neg (by decide), if_neg (by decide), if_neg (by decide), if_neg (by decide), if_neg (by decide), if_pos rfl, hr])
  have hr2 : r ≤ 64 := by omega
  have HC := Lib.hid (show (0 : Int) ≤ a ∧ (a : Int) ≤ 18446744073709551615 by omega)
  clear hbl hr ha
  go_enter Tryd.func43, Tryd.ntmps43
  go_wp2_with fail
  refine (Tryd.bits_LeadingZeros64 (a : Int) _ HC.out.1 HC.out.2).mono ?_
  rintro e w' ⟨rfl, rfl⟩
  rw [h5]
  clear h5
  go_wp2_with fail
  go_ret
  exact ⟨by rw [HV.out]; rfl, 0, rfl⟩
set_option maxHeartbeats 1000000 in
theorem f7_any (a : Nat) (w : World) (ha : a < 18446744073709551616) (hT : TabAt 1 Lib.deBruijn64tab w) : Calls Tryd.prog 45 #[.int .u64 a] w (Quiet1 w (oneA 122 a)) := by
  have hbl := ctz_le 64 a (by omega)
  obtain ⟨r, hr⟩ : ∃ r : Nat, Lib.ctz 64 a = r := ⟨_, rfl⟩
  have HV := Lib.hid (show oneA 122 a = (r : Int) by unfold oneA; rw [if_neg (by decide), if_neg (by decide), if_neg (by decide), if_neg (by decide), if_neg (by decide), if_neg (by decide), if_pos rfl, hr])
  have HR := Lib.hid hr
  have hr2 : r ≤ 64 := by omega
  have HC := Lib.hid ha
  have HT := Lib.hid hT
  clear hbl hr hT ha
  go_enter Tryd.func45, Tryd.ntmps45
  go_wp2_with fail
  refine (Tryd.bits_TrailingZeros64 a HC.out _ (fun _ => HT.out)).mono ?_
  rintro e w' ⟨rfl, rfl⟩
  rw [HR.out]
  go_wp2_with fail
  go_ret
  exact ⟨by rw [HV.out]; rfl, 0, rfl⟩
set_option maxHeartbeats 1000000 in
theorem f8_any (a : Nat) (w : World) (ha : a < 18446744073709551616) : Calls Tryd.prog 47 #[.int .u64 a] w (Quiet1 w (oneA 123 a)) := by
  have hbl := pc_le 64 a
  obtain ⟨r, hr⟩ : ∃ r : Nat, pc 64 a = r := ⟨_, rfl⟩
  have HV := Lib.hid (show oneA 123 a = (r : Int) by unfold oneA; rw [if_neg (by decide), if_neg (by decide), if_neg (by decide), if_neg (by decide), if_neg (by decide), if_neg (by decide), if_neg (by decide), if_pos rfl, hr])
  have HR := Lib.hid hr
  have hr2 : r ≤ 64 := by omega
  have HC := Lib.hid ha
  clear hbl hr ha
  go_enter Tryd.func47, Tryd.ntmps47
  go_wp2_with fail
  refine (ones64_any' a _ HC.out).mono ?_
  rintro e w' ⟨rfl, rfl⟩
  rw [HR.out]
  go_wp2_with fail
  go_ret
  exact ⟨by rw [HV.out]; rfl, 0, rfl⟩
theorem half_u64 (a : Nat) (ha : a < 18446744073709551616) : bits .and .u64 (a : Int) 4294967295 = ((a % 4294967296 : Nat) : Int) := by
  have h := bits_and_u64_nat a 4294967295 ha (by decide)
  rw [Nat.and_two_pow_sub_one_eq_mod a 32] at h
  exact h
set_option maxHeartbeats 1000000 in
theorem f9_any (a : Nat) (w : World) (ha : a < 18446744073709551616) : Calls Tryd.prog 49 #[.int .u64 a] w (Quiet1 w (oneA 167 a)) := by
  have HV := Lib.hid (show oneA 167 a = bits .and .u64 (a : Int) 4294967295 by rw [half_u64 a ha]; unfold oneA; rw [if_neg (by decide), if_neg (by decide), if_neg (by decide), if_neg (by decide), if_neg (by decide), if_neg (by decide), if_neg (by decide), if_neg (by decide), if_pos (.inl rfl)])
  clear ha
  go_enter Tryd.func49, Tryd.ntmps49
  go_wp2_with fail
  go_ret
  exact ⟨by rw [HV.out]; rfl, 0, rfl⟩
set_option maxHeartbeats 1000000 in
theorem f11_any (a : Nat) (w : World) (ha : a < 18446744073709551616) : Calls Tryd.prog 51 #[.int .u64 a] w (Quiet1 w (oneA 173 a)) := by
  have HV := Lib.hid (show oneA 173 a = bits .and .u64 (a : Int) 4294967295 by rw [half_u64 a ha]; unfold oneA; rw [if_neg (by decide), if_neg (by decide), if_neg (by decide), if_neg (by decide), if_neg (by decide), if_neg (by decide), if_neg (by decide), if_neg (by decide), if_pos (.inr rfl)])
  clear ha
  go_enter Tryd.func51, Tryd.ntmps51
  go_wp2_with fail
  go_ret
  exact ⟨by rw [HV.out]; rfl, 0, rfl⟩
set_option maxHeartbeats 1000000 in
theorem f10_any (a : Nat) (w : World) : Calls Tryd.prog 50 #[.int .u64 a] w (Quiet1 w (oneA 172 a)) := by
  obtain ⟨c, hc⟩ : ∃ c : Nat, (a : Int) % 4294967296 = (c : Int) := ⟨a % 4294967296, by omega⟩
  have HV := Lib.hid (show oneA 172 a = IntKind.u64.wrap (wrap64 (wrap32 (c : Int))) by rw [show wrap64 (wrap32 (c : Int)) = wrap32 (c : Int) by unfold wrap64 wrap32; omega]; unfold oneA; rw [if_neg (by decide), if_neg (by decide), if_neg (by decide), if_neg (by decide), if_neg (by decide), if_neg (by decide), if_neg (by decide), if_neg (by decide), if_neg (by decide), show (((a % 4294967296 : Nat) : Int)) = (c : Int) by omega])
  go_enter Tryd.func50, Tryd.ntmps50
  go_wp2_with fail
  go_ret
  exact ⟨by rw [HV.out]; rfl, 0, rfl⟩
end Go.Proofs.YtebikmnegemggaaDoor.Num
