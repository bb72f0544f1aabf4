/-
  reckon of chapter 10. No condition beyond what each theorem names.
-/
import Derived.Test.YtekpdcofjhdiiaaGreatDoorValE
namespace Go.Proofs.YtekpdcofjhdiiaaGreatDoor.Val
open Go.RowKit Go.Maps
set_option linter.unusedVariables false
set_option linter.unusedSimpArgs false
def RecS (w : World) (o : Option Int) (e : Ending) (w' : World) : Prop := ∃ v ok, e = .returned (.tuple #[.int .i64 v, .bool ok]) ∧ ok = o.isSome ∧ (∀ z, o = some z → v = z) ∧ Below w.heap.size w w'
def optF (x : Int) : Option Int := if fits x then some x else none
def optD (a b : Int) : Option Int := if b = 0 ∨ (a = -9223372036854775808 ∧ b = -1) then none else some (a.tdiv b)
theorem rec_out {w w' : World} {x v : Int} {ok : Bool} (h1 : ok = fits x) (h2 : ok = true → v = x) (c : Below w.heap.size w w') : RecS w (optF x) (.returned (.tuple #[.int .i64 v, .bool ok])) w' := by
  unfold optF
  refine ⟨v, ok, rfl, ?_, ?_, c⟩
  · rw [h1]; cases fits x <;> rfl
  · intro z hz
    cases hf : fits x with
    | false => rw [hf] at hz; cases hz
    | true =>
      rw [hf] at hz h1
      simp at hz
      rw [h2 h1, hz]
theorem rec_no {w w' : World} {v : Int} (c : Below w.heap.size w w') : RecS w none (.returned (.tuple #[.int .i64 v, .bool false])) w' := ⟨v, false, rfl, rfl, (fun z hz => by cases hz), c⟩
theorem rec_yes {w w' : World} {v z : Int} (h : v = z) (c : Below w.heap.size w w') : RecS w (some z) (.returned (.tuple #[.int .i64 v, .bool true])) w' := ⟨v, true, rfl, rfl, (fun y hy => by rw [h]; injection hy), c⟩
set_option maxRecDepth 100000 in
set_option maxHeartbeats 2000000 in
theorem reckon_add (a b : Int) (ha : I64 a) (hb : I64 b) (w : World) : Calls Tryz.prog 22 #[.int .u8 43, .int .i64 a, .int .i64 b] w (RecS w (optF (a + b))) := by
  have hl := add_look ha hb
  have hz := fun h => wrap_fits (x := a + b) h
  obtain ⟨X, hX⟩ : ∃ X, a + b = X := ⟨_, rfl⟩
  rw [hX] at hl hz ⊢
  obtain ⟨S, hS⟩ : ∃ S, wrap64 X = S := ⟨_, rfl⟩
  rw [hS] at hl hz
  obtain ⟨D, hD⟩ : ∃ D, decide (0 ≤ bits .and .i64 (bits .xor .i64 a S) (bits .xor .i64 b S)) = D := ⟨_, rfl⟩
  rw [hD] at hl
  have HL := Lib.hid hl
  have HZ := Lib.hid hz
  clear hl hz ha hb
  go_enter Tryz.func22, Tryz.ntmps22
  go_wp2_with fail
  go_ret2
  first
    | exact rec_out HL.out (fun h => HZ.out (HL.out.symm.trans h)) (Below.refl _ _)
    | exact rec_out HL.out (fun h => hS.trans (HZ.out (HL.out.symm.trans h))) (Below.refl _ _)
set_option maxRecDepth 100000 in
set_option maxHeartbeats 2000000 in
theorem reckon_sub (a b : Int) (ha : I64 a) (hb : I64 b) (w : World) : Calls Tryz.prog 22 #[.int .u8 45, .int .i64 a, .int .i64 b] w (RecS w (optF (a - b))) := by
  have hl := sub_look ha hb
  have hz := fun h => wrap_fits (x := a - b) h
  obtain ⟨X, hX⟩ : ∃ X, a - b = X := ⟨_, rfl⟩
  rw [hX] at hl hz ⊢
  obtain ⟨S, hS⟩ : ∃ S, wrap64 X = S := ⟨_, rfl⟩
  rw [hS] at hl hz
  obtain ⟨D, hD⟩ : ∃ D, decide (0 ≤ bits .and .i64 (bits .xor .i64 a b) (bits .xor .i64 a S)) = D := ⟨_, rfl⟩
  rw [hD] at hl
  have HL := Lib.hid hl
  have HZ := Lib.hid hz
  clear hl hz ha hb
  go_enter Tryz.func22, Tryz.ntmps22
  go_wp2_with fail
  go_ret2
  first
    | exact rec_out HL.out (fun h => HZ.out (HL.out.symm.trans h)) (Below.refl _ _)
    | exact rec_out HL.out (fun h => hS.trans (HZ.out (HL.out.symm.trans h))) (Below.refl _ _)
set_option maxRecDepth 100000 in
set_option maxHeartbeats 2000000 in
theorem reckon_mul (a b : Int) (ha : I64 a) (hb : I64 b) (w : World) : Calls Tryz.prog 22 #[.int .u8 42, .int .i64 a, .int .i64 b] w (RecS w (optF (a * b))) := by
  have hs : sgn (decide (a < 0) != decide (b < 0)) (a.natAbs * b.natAbs) = a * b := by
    unfold sgn
    have h1 : ((a.natAbs * b.natAbs : Nat) : Int) = (a * b).natAbs := by rw [Int.natAbs_mul]
    rw [h1]
    by_cases h2 : a < 0 <;> by_cases h3 : b < 0
    · have := Int.mul_pos_of_neg_of_neg h2 h3
      simp [h2, h3]; omega
    · have := Int.mul_nonpos_of_nonpos_of_nonneg (a := a) (b := b) (by omega) (by omega)
      simp [h2, h3]; omega
    · have := Int.mul_nonpos_of_nonneg_of_nonpos (a := a) (b := b) (by omega) (by omega)
      simp [h2, h3]; omega
    · have := Int.mul_nonneg (a := a) (b := b) (by omega) (by omega)
      simp [h2, h3]; omega
  have HA := Lib.hid ha
  have HB := Lib.hid hb
  have HS := Lib.hid hs
  clear ha hb hs
  go_enter Tryz.func22, Tryz.ntmps22
  go_wp2_with fail
  refine (widen_any a HA.out _).mono ?_
  rintro e w1 ⟨rfl, c1⟩
  have C1 := Lib.hid c1
  clear c1
  obtain ⟨D, hD⟩ : ∃ D, decide (a < 0) = D := ⟨_, rfl⟩
  obtain ⟨N, hN⟩ : ∃ N, a.natAbs = N := ⟨_, rfl⟩
  have hNl : N < 18446744073709551616 := hN ▸ i64_abs HA.out
  rw [hD, hN] at HS
  rw [hD, hN]
  have HNL := Lib.hid hNl
  clear hD hN hNl
  go_wp2_with fail
  refine (times_any D 0 N HNL.out b HB.out _).mono ?_
  rintro e w3 ⟨hi, lo, hp, hl, rfl, c3⟩
  rw [← hp] at HS
  have HL := Lib.hid hl
  have C3 := Lib.hid (C1.out.trans (c3.mono C1.out.size))
  obtain ⟨M, hM⟩ : ∃ M, (D != decide (b < 0)) = M := ⟨_, rfl⟩
  rw [hM] at HS ⊢
  clear hp hl c3 hM
  go_wp2_with fail
  refine (narrow_any M hi lo HL.out _).mono ?_
  rintro e w4 ⟨u, ok, rfl, hok, hu, c4⟩
  rw [HS.out] at hok hu
  have C4 := Lib.hid (C3.out.trans (c4.mono C3.out.size))
  have HU := Lib.hid hu
  have HOK := Lib.hid hok
  clear hok hu c4
  go_wp2_with fail
  go_ret2
  exact rec_out HOK.out HU.out C4.out
set_option maxRecDepth 100000 in
set_option maxHeartbeats 2000000 in
theorem reckon_div (op : UInt8) (h43 : (op == 43) = false) (h45 : (op == 45) = false) (h42 : (op == 42) = false) (a b : Int) (ha : I64 a) (hb : I64 b) (w : World) : Calls Tryz.prog 22 #[.int .u8 (op.toNat : Int), .int .i64 a, .int .i64 b] w (RecS w (optD a b)) := by
  have e43 : ((op.toNat : Int) == 43) = false := by rw [show (43 : Int) = ((43 : Nat) : Int) from rfl, op_num op 43 (by decide)]; exact h43
  have e45 : ((op.toNat : Int) == 45) = false := by rw [show (45 : Int) = ((45 : Nat) : Int) from rfl, op_num op 45 (by decide)]; exact h45
  have e42 : ((op.toNat : Int) == 42) = false := by rw [show (42 : Int) = ((42 : Nat) : Int) from rfl, op_num op 42 (by decide)]; exact h42
  clear h43 h45 h42
  by_cases h0 : b = 0
  · subst h0
    rw [show optD a 0 = none from if_pos (.inl rfl)]
    go_enter Tryz.func22, Tryz.ntmps22
    go_wp2_with fail
    go_ret2
    exact rec_no (Below.refl _ _)
  · have e0 : (b == 0) = false := beq_eq_false_iff_ne.2 h0
    have hn : ¬ b = 0 := h0
    by_cases hs : a = -9223372036854775808 ∧ b = -1
    · rw [show optD a b = none from if_pos (.inr hs)]
      obtain ⟨rfl, rfl⟩ := hs
      clear h0 hn e0
      go_enter Tryz.func22, Tryz.ntmps22
      go_wp2_with fail
      go_ret2
      exact rec_no (Below.refl _ _)
    · rw [show optD a b = some (a.tdiv b) from if_neg (fun h => h.elim h0 hs)]
      have hq := tdiv_i64 ha hs
      obtain ⟨Q, hQ⟩ : ∃ Q, a.tdiv b = Q := ⟨_, rfl⟩
      rw [hQ] at hq ⊢
      cases e1 : (a == -9223372036854775808)
      · clear h0 hs ha hb
        go_enter Tryz.func22, Tryz.ntmps22
        go_wp2_with fail
        go_ret2
        exact rec_yes hq (Below.refl _ _)
      · have e2 : (b == -1) = false := beq_eq_false_iff_ne.2 (fun h => hs ⟨by simpa using e1, h⟩)
        clear h0 hs ha hb
        go_enter Tryz.func22, Tryz.ntmps22
        go_wp2_with fail
        go_ret2
        exact rec_yes hq (Below.refl _ _)
theorem reckon_any (op : UInt8) (a b : Int) (ha : I64 a) (hb : I64 b) (w : World) (o : Option Int) (ho : reckonP op a b = o) : Calls Tryz.prog 22 #[.int .u8 (op.toNat : Int), .int .i64 a, .int .i64 b] w (RecS w o) := by
  subst ho
  unfold reckonP
  cases h43 : (op == 43) with
  | true =>
    obtain rfl : op = 43 := by simpa using h43
    exact reckon_add a b ha hb w
  | false =>
    cases h45 : (op == 45) with
    | true =>
      obtain rfl : op = 45 := by simpa using h45
      exact reckon_sub a b ha hb w
    | false =>
      cases h42 : (op == 42) with
      | true =>
        obtain rfl : op = 42 := by simpa using h42
        exact reckon_mul a b ha hb w
      | false => exact reckon_div op h43 h45 h42 a b ha hb w
end Go.Proofs.YtekpdcofjhdiiaaGreatDoor.Val
