/-
  What num.One answers, at any code. No condition beyond what each theorem names.
-/
import Derived.Test.YtebikmnegemggaaDoorNumOnesFns
import Derived.WalkSpells
namespace Go.Proofs.YtebikmnegemggaaDoor.Num
open Go.RowKit Go.Maps
set_option linter.unusedVariables false

/-- the library's two tables, as their initialisers lay them -/
def Tabs (w : World) : Prop := TabAt 0 Lib.deBruijn32tab w ∧ TabAt 1 Lib.deBruijn64tab w
theorem tabAt_later {g : Nat} {tab : List Nat} {w w' : World} (h : TabAt g tab w) (hb : Below w.heap.size w w') : TabAt g tab w' := fun j hj => cell_later hb (h j hj)
theorem tabs_later {w w' : World} (h : Tabs w) (hb : Below w.heap.size w w') : Tabs w' := ⟨tabAt_later h.1 hb, tabAt_later h.2 hb⟩
theorem drewB {B : Nat} {a w : World} (h : Below B a w) (n : Nat) : Below B a (w.drewN n) := h.trans ⟨rfl, rfl, rfl, Nat.le_refl _, fun _ _ => rfl⟩
theorem held_inj {a b : Value} (h : (DataW.held a : DataW Value) = .held b) : a = b := by injection h

theorem at_69 : onesD.atKey (.int .i64 69) (.held .nilFunc) = .held (.func (.func 35) #[] #[]) := by kernel_rfl
theorem has_69 : Maps.has onesD (.int .i64 69) = true := by kernel_rfl
set_option maxRecDepth 100000 in
set_option maxHeartbeats 1000000 in
theorem one_69 (a : Nat) (w : World) (ha : a < 18446744073709551616) (hT : Tabs w) :
    Calls Tryd.prog 14 #[.int .i64 69, .int .u64 a] w fun e w' => e = .returned (.tuple #[.int .u64 (oneA 69 a), .int .i64 0]) ∧ Below w.heap.size w w' := by
  have HA := Lib.hid ha
  have HT := Lib.hid hT
  clear ha hT
  go_enter Tryd.func14, Tryd.ntmps14
  go_wp2_with fail
  refine (ones_any _).mono ?_
  rintro e w1 ⟨b, n, rfl, hown, hb, hle⟩
  obtain ⟨v, ps, hrun, hv⟩ := hown.look_ok keyed_int Tryd.underlying43 (zero_fn w1) (show asIs .nilFunc = some (.held .nilFunc, []) from rfl) (key_int 69 (by decide))
  have hv2 := held_inj ((congrArg Prod.fst (Option.some.inj hv)).trans at_69)
  subst hv2
  rw [has_69] at hrun
  clear hown hv
  go_wp2_with fail
  refine (f1_any a _).mono ?_
  rintro e w2 ⟨rfl, n2, rfl⟩
  obtain ⟨V, hV⟩ : ∃ V, oneA 69 a = V := ⟨_, rfl⟩
  rw [hV]
  have HV := Lib.hid hV
  clear hV
  go_wp2_with fail
  go_ret2
  exact ⟨by rw [HV.out]; rfl, drewB hb n2⟩

theorem at_80 : onesD.atKey (.int .i64 80) (.held .nilFunc) = .held (.func (.func 36) #[] #[]) := by kernel_rfl
theorem has_80 : Maps.has onesD (.int .i64 80) = true := by kernel_rfl
set_option maxRecDepth 100000 in
set_option maxHeartbeats 1000000 in
theorem one_80 (a : Nat) (w : World) (ha : a < 18446744073709551616) (hT : Tabs w) :
    Calls Tryd.prog 14 #[.int .i64 80, .int .u64 a] w fun e w' => e = .returned (.tuple #[.int .u64 (oneA 80 a), .int .i64 0]) ∧ Below w.heap.size w w' := by
  have HA := Lib.hid ha
  have HT := Lib.hid hT
  clear ha hT
  go_enter Tryd.func14, Tryd.ntmps14
  go_wp2_with fail
  refine (ones_any _).mono ?_
  rintro e w1 ⟨b, n, rfl, hown, hb, hle⟩
  obtain ⟨v, ps, hrun, hv⟩ := hown.look_ok keyed_int Tryd.underlying43 (zero_fn w1) (show asIs .nilFunc = some (.held .nilFunc, []) from rfl) (key_int 80 (by decide))
  have hv2 := held_inj ((congrArg Prod.fst (Option.some.inj hv)).trans at_80)
  subst hv2
  rw [has_80] at hrun
  clear hown hv
  go_wp2_with fail
  refine (f2_any a _).mono ?_
  rintro e w2 ⟨rfl, n2, rfl⟩
  obtain ⟨V, hV⟩ : ∃ V, oneA 80 a = V := ⟨_, rfl⟩
  rw [hV]
  have HV := Lib.hid hV
  clear hV
  go_wp2_with fail
  go_ret2
  exact ⟨by rw [HV.out]; rfl, drewB hb n2⟩

theorem at_103 : onesD.atKey (.int .i64 103) (.held .nilFunc) = .held (.func (.func 37) #[] #[]) := by kernel_rfl
theorem has_103 : Maps.has onesD (.int .i64 103) = true := by kernel_rfl
set_option maxRecDepth 100000 in
set_option maxHeartbeats 1000000 in
theorem one_103 (a : Nat) (w : World) (ha : a < 18446744073709551616) (hT : Tabs w) :
    Calls Tryd.prog 14 #[.int .i64 103, .int .u64 a] w fun e w' => e = .returned (.tuple #[.int .u64 (oneA 103 a), .int .i64 0]) ∧ Below w.heap.size w w' := by
  have HA := Lib.hid ha
  have HT := Lib.hid hT
  clear ha hT
  go_enter Tryd.func14, Tryd.ntmps14
  go_wp2_with fail
  refine (ones_any _).mono ?_
  rintro e w1 ⟨b, n, rfl, hown, hb, hle⟩
  obtain ⟨v, ps, hrun, hv⟩ := hown.look_ok keyed_int Tryd.underlying43 (zero_fn w1) (show asIs .nilFunc = some (.held .nilFunc, []) from rfl) (key_int 103 (by decide))
  have hv2 := held_inj ((congrArg Prod.fst (Option.some.inj hv)).trans at_103)
  subst hv2
  rw [has_103] at hrun
  clear hown hv
  go_wp2_with fail
  refine (f3_any a _).mono ?_
  rintro e w2 ⟨rfl, n2, rfl⟩
  obtain ⟨V, hV⟩ : ∃ V, oneA 103 a = V := ⟨_, rfl⟩
  rw [hV]
  have HV := Lib.hid hV
  clear hV
  go_wp2_with fail
  go_ret2
  exact ⟨by rw [HV.out]; rfl, drewB hb n2⟩

theorem at_104 : onesD.atKey (.int .i64 104) (.held .nilFunc) = .held (.func (.func 39) #[] #[]) := by kernel_rfl
theorem has_104 : Maps.has onesD (.int .i64 104) = true := by kernel_rfl
set_option maxRecDepth 100000 in
set_option maxHeartbeats 1000000 in
theorem one_104 (a : Nat) (w : World) (ha : a < 18446744073709551616) (hT : Tabs w) :
    Calls Tryd.prog 14 #[.int .i64 104, .int .u64 a] w fun e w' => e = .returned (.tuple #[.int .u64 (oneA 104 a), .int .i64 0]) ∧ Below w.heap.size w w' := by
  have HA := Lib.hid ha
  have HT := Lib.hid hT
  clear ha hT
  go_enter Tryd.func14, Tryd.ntmps14
  go_wp2_with fail
  refine (ones_any _).mono ?_
  rintro e w1 ⟨b, n, rfl, hown, hb, hle⟩
  obtain ⟨v, ps, hrun, hv⟩ := hown.look_ok keyed_int Tryd.underlying43 (zero_fn w1) (show asIs .nilFunc = some (.held .nilFunc, []) from rfl) (key_int 104 (by decide))
  have hv2 := held_inj ((congrArg Prod.fst (Option.some.inj hv)).trans at_104)
  subst hv2
  rw [has_104] at hrun
  clear hown hv
  go_wp2_with fail
  refine (f4_any a _ (tabs_later HT.out hb).1).mono ?_
  rintro e w2 ⟨rfl, n2, rfl⟩
  obtain ⟨V, hV⟩ : ∃ V, oneA 104 a = V := ⟨_, rfl⟩
  rw [hV]
  have HV := Lib.hid hV
  clear hV
  go_wp2_with fail
  go_ret2
  exact ⟨by rw [HV.out]; rfl, drewB hb n2⟩

theorem at_105 : onesD.atKey (.int .i64 105) (.held .nilFunc) = .held (.func (.func 41) #[] #[]) := by kernel_rfl
theorem has_105 : Maps.has onesD (.int .i64 105) = true := by kernel_rfl
set_option maxRecDepth 100000 in
set_option maxHeartbeats 1000000 in
theorem one_105 (a : Nat) (w : World) (ha : a < 18446744073709551616) (hT : Tabs w) :
    Calls Tryd.prog 14 #[.int .i64 105, .int .u64 a] w fun e w' => e = .returned (.tuple #[.int .u64 (oneA 105 a), .int .i64 0]) ∧ Below w.heap.size w w' := by
  have HA := Lib.hid ha
  have HT := Lib.hid hT
  clear ha hT
  go_enter Tryd.func14, Tryd.ntmps14
  go_wp2_with fail
  refine (ones_any _).mono ?_
  rintro e w1 ⟨b, n, rfl, hown, hb, hle⟩
  obtain ⟨v, ps, hrun, hv⟩ := hown.look_ok keyed_int Tryd.underlying43 (zero_fn w1) (show asIs .nilFunc = some (.held .nilFunc, []) from rfl) (key_int 105 (by decide))
  have hv2 := held_inj ((congrArg Prod.fst (Option.some.inj hv)).trans at_105)
  subst hv2
  rw [has_105] at hrun
  clear hown hv
  go_wp2_with fail
  refine (f5_any a _).mono ?_
  rintro e w2 ⟨rfl, n2, rfl⟩
  obtain ⟨V, hV⟩ : ∃ V, oneA 105 a = V := ⟨_, rfl⟩
  rw [hV]
  have HV := Lib.hid hV
  clear hV
  go_wp2_with fail
  go_ret2
  exact ⟨by rw [HV.out]; rfl, drewB hb n2⟩

theorem at_121 : onesD.atKey (.int .i64 121) (.held .nilFunc) = .held (.func (.func 43) #[] #[]) := by kernel_rfl
theorem has_121 : Maps.has onesD (.int .i64 121) = true := by kernel_rfl
set_option maxRecDepth 100000 in
set_option maxHeartbeats 1000000 in
theorem one_121 (a : Nat) (w : World) (ha : a < 18446744073709551616) (hT : Tabs w) :
    Calls Tryd.prog 14 #[.int .i64 121, .int .u64 a] w fun e w' => e = .returned (.tuple #[.int .u64 (oneA 121 a), .int .i64 0]) ∧ Below w.heap.size w w' := by
  have HA := Lib.hid ha
  have HT := Lib.hid hT
  clear ha hT
  go_enter Tryd.func14, Tryd.ntmps14
  go_wp2_with fail
  refine (ones_any _).mono ?_
  rintro e w1 ⟨b, n, rfl, hown, hb, hle⟩
  obtain ⟨v, ps, hrun, hv⟩ := hown.look_ok keyed_int Tryd.underlying43 (zero_fn w1) (show asIs .nilFunc = some (.held .nilFunc, []) from rfl) (key_int 121 (by decide))
  have hv2 := held_inj ((congrArg Prod.fst (Option.some.inj hv)).trans at_121)
  subst hv2
  rw [has_121] at hrun
  clear hown hv
  go_wp2_with fail
  refine (f6_any a _ HA.out).mono ?_
  rintro e w2 ⟨rfl, n2, rfl⟩
  obtain ⟨V, hV⟩ : ∃ V, oneA 121 a = V := ⟨_, rfl⟩
  rw [hV]
  have HV := Lib.hid hV
  clear hV
  go_wp2_with fail
  go_ret2
  exact ⟨by rw [HV.out]; rfl, drewB hb n2⟩

theorem at_122 : onesD.atKey (.int .i64 122) (.held .nilFunc) = .held (.func (.func 45) #[] #[]) := by kernel_rfl
theorem has_122 : Maps.has onesD (.int .i64 122) = true := by kernel_rfl
set_option maxRecDepth 100000 in
set_option maxHeartbeats 1000000 in
theorem one_122 (a : Nat) (w : World) (ha : a < 18446744073709551616) (hT : Tabs w) :
    Calls Tryd.prog 14 #[.int .i64 122, .int .u64 a] w fun e w' => e = .returned (.tuple #[.int .u64 (oneA 122 a), .int .i64 0]) ∧ Below w.heap.size w w' := by
  have HA := Lib.hid ha
  have HT := Lib.hid hT
  clear ha hT
  go_enter Tryd.func14, Tryd.ntmps14
  go_wp2_with fail
  refine (ones_any _).mono ?_
  rintro e w1 ⟨b, n, rfl, hown, hb, hle⟩
  obtain ⟨v, ps, hrun, hv⟩ := hown.look_ok keyed_int Tryd.underlying43 (zero_fn w1) (show asIs .nilFunc = some (.held .nilFunc, []) from rfl) (key_int 122 (by decide))
  have hv2 := held_inj ((congrArg Prod.fst (Option.some.inj hv)).trans at_122)
  subst hv2
  rw [has_122] at hrun
  clear hown hv
  go_wp2_with fail
  refine (f7_any a _ HA.out (tabs_later HT.out hb).2).mono ?_
  rintro e w2 ⟨rfl, n2, rfl⟩
  obtain ⟨V, hV⟩ : ∃ V, oneA 122 a = V := ⟨_, rfl⟩
  rw [hV]
  have HV := Lib.hid hV
  clear hV
  go_wp2_with fail
  go_ret2
  exact ⟨by rw [HV.out]; rfl, drewB hb n2⟩

theorem at_123 : onesD.atKey (.int .i64 123) (.held .nilFunc) = .held (.func (.func 47) #[] #[]) := by kernel_rfl
theorem has_123 : Maps.has onesD (.int .i64 123) = true := by kernel_rfl
set_option maxRecDepth 100000 in
set_option maxHeartbeats 1000000 in
theorem one_123 (a : Nat) (w : World) (ha : a < 18446744073709551616) (hT : Tabs w) :
    Calls Tryd.prog 14 #[.int .i64 123, .int .u64 a] w fun e w' => e = .returned (.tuple #[.int .u64 (oneA 123 a), .int .i64 0]) ∧ Below w.heap.size w w' := by
  have HA := Lib.hid ha
  have HT := Lib.hid hT
  clear ha hT
  go_enter Tryd.func14, Tryd.ntmps14
  go_wp2_with fail
  refine (ones_any _).mono ?_
  rintro e w1 ⟨b, n, rfl, hown, hb, hle⟩
  obtain ⟨v, ps, hrun, hv⟩ := hown.look_ok keyed_int Tryd.underlying43 (zero_fn w1) (show asIs .nilFunc = some (.held .nilFunc, []) from rfl) (key_int 123 (by decide))
  have hv2 := held_inj ((congrArg Prod.fst (Option.some.inj hv)).trans at_123)
  subst hv2
  rw [has_123] at hrun
  clear hown hv
  go_wp2_with fail
  refine (f8_any a _ HA.out).mono ?_
  rintro e w2 ⟨rfl, n2, rfl⟩
  obtain ⟨V, hV⟩ : ∃ V, oneA 123 a = V := ⟨_, rfl⟩
  rw [hV]
  have HV := Lib.hid hV
  clear hV
  go_wp2_with fail
  go_ret2
  exact ⟨by rw [HV.out]; rfl, drewB hb n2⟩

theorem at_167 : onesD.atKey (.int .i64 167) (.held .nilFunc) = .held (.func (.func 49) #[] #[]) := by kernel_rfl
theorem has_167 : Maps.has onesD (.int .i64 167) = true := by kernel_rfl
set_option maxRecDepth 100000 in
set_option maxHeartbeats 1000000 in
theorem one_167 (a : Nat) (w : World) (ha : a < 18446744073709551616) (hT : Tabs w) :
    Calls Tryd.prog 14 #[.int .i64 167, .int .u64 a] w fun e w' => e = .returned (.tuple #[.int .u64 (oneA 167 a), .int .i64 0]) ∧ Below w.heap.size w w' := by
  have HA := Lib.hid ha
  have HT := Lib.hid hT
  clear ha hT
  go_enter Tryd.func14, Tryd.ntmps14
  go_wp2_with fail
  refine (ones_any _).mono ?_
  rintro e w1 ⟨b, n, rfl, hown, hb, hle⟩
  obtain ⟨v, ps, hrun, hv⟩ := hown.look_ok keyed_int Tryd.underlying43 (zero_fn w1) (show asIs .nilFunc = some (.held .nilFunc, []) from rfl) (key_int 167 (by decide))
  have hv2 := held_inj ((congrArg Prod.fst (Option.some.inj hv)).trans at_167)
  subst hv2
  rw [has_167] at hrun
  clear hown hv
  go_wp2_with fail
  refine (f9_any a _ HA.out).mono ?_
  rintro e w2 ⟨rfl, n2, rfl⟩
  obtain ⟨V, hV⟩ : ∃ V, oneA 167 a = V := ⟨_, rfl⟩
  rw [hV]
  have HV := Lib.hid hV
  clear hV
  go_wp2_with fail
  go_ret2
  exact ⟨by rw [HV.out]; rfl, drewB hb n2⟩

theorem at_172 : onesD.atKey (.int .i64 172) (.held .nilFunc) = .held (.func (.func 50) #[] #[]) := by kernel_rfl
theorem has_172 : Maps.has onesD (.int .i64 172) = true := by kernel_rfl
set_option maxRecDepth 100000 in
set_option maxHeartbeats 1000000 in
theorem one_172 (a : Nat) (w : World) (ha : a < 18446744073709551616) (hT : Tabs w) :
    Calls Tryd.prog 14 #[.int .i64 172, .int .u64 a] w fun e w' => e = .returned (.tuple #[.int .u64 (oneA 172 a), .int .i64 0]) ∧ Below w.heap.size w w' := by
  have HA := Lib.hid ha
  have HT := Lib.hid hT
  clear ha hT
  go_enter Tryd.func14, Tryd.ntmps14
  go_wp2_with fail
  refine (ones_any _).mono ?_
  rintro e w1 ⟨b, n, rfl, hown, hb, hle⟩
  obtain ⟨v, ps, hrun, hv⟩ := hown.look_ok keyed_int Tryd.underlying43 (zero_fn w1) (show asIs .nilFunc = some (.held .nilFunc, []) from rfl) (key_int 172 (by decide))
  have hv2 := held_inj ((congrArg Prod.fst (Option.some.inj hv)).trans at_172)
  subst hv2
  rw [has_172] at hrun
  clear hown hv
  go_wp2_with fail
  refine (f10_any a _).mono ?_
  rintro e w2 ⟨rfl, n2, rfl⟩
  obtain ⟨V, hV⟩ : ∃ V, oneA 172 a = V := ⟨_, rfl⟩
  rw [hV]
  have HV := Lib.hid hV
  clear hV
  go_wp2_with fail
  go_ret2
  exact ⟨by rw [HV.out]; rfl, drewB hb n2⟩

theorem at_173 : onesD.atKey (.int .i64 173) (.held .nilFunc) = .held (.func (.func 51) #[] #[]) := by kernel_rfl
theorem has_173 : Maps.has onesD (.int .i64 173) = true := by kernel_rfl
set_option maxRecDepth 100000 in
set_option maxHeartbeats 1000000 in
theorem one_173 (a : Nat) (w : World) (ha : a < 18446744073709551616) (hT : Tabs w) :
    Calls Tryd.prog 14 #[.int .i64 173, .int .u64 a] w fun e w' => e = .returned (.tuple #[.int .u64 (oneA 173 a), .int .i64 0]) ∧ Below w.heap.size w w' := by
  have HA := Lib.hid ha
  have HT := Lib.hid hT
  clear ha hT
  go_enter Tryd.func14, Tryd.ntmps14
  go_wp2_with fail
  refine (ones_any _).mono ?_
  rintro e w1 ⟨b, n, rfl, hown, hb, hle⟩
  obtain ⟨v, ps, hrun, hv⟩ := hown.look_ok keyed_int Tryd.underlying43 (zero_fn w1) (show asIs .nilFunc = some (.held .nilFunc, []) from rfl) (key_int 173 (by decide))
  have hv2 := held_inj ((congrArg Prod.fst (Option.some.inj hv)).trans at_173)
  subst hv2
  rw [has_173] at hrun
  clear hown hv
  go_wp2_with fail
  refine (f11_any a _ HA.out).mono ?_
  rintro e w2 ⟨rfl, n2, rfl⟩
  obtain ⟨V, hV⟩ : ∃ V, oneA 173 a = V := ⟨_, rfl⟩
  rw [hV]
  have HV := Lib.hid hV
  clear hV
  go_wp2_with fail
  go_ret2
  exact ⟨by rw [HV.out]; rfl, drewB hb n2⟩

theorem has_any (op : Int) (h : Maps.has onesD (.int .i64 op) = true) : op = 69 ∨ op = 80 ∨ op = 103 ∨ op = 104 ∨ op = 105 ∨ op = 121 ∨ op = 122 ∨ op = 123 ∨ op = 167 ∨ op = 172 ∨ op = 173 := by
  have e : Maps.has onesD (.int .i64 op) = ([69, 80, 103, 104, 105, 121, 122, 123, 167, 172, 173].any fun k => (Lit.int .i64 k).sameKey (.int .i64 op)) := by
    kernel_rfl
  rw [e] at h
  simp [Lit.sameKey] at h
  omega
end Go.Proofs.YtebikmnegemggaaDoor.Num
