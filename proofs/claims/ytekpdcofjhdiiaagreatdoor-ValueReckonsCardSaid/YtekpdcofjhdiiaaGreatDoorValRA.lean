/-
  The reference's reckon, truth, value, Not, And, Or, order of chapter 10. No condition beyond what each theorem names.
-/
import Derived.Test.YtekpdcofjhdiiaaGreatDoorValG
import Derived.Test.YtekpdcofjhdiiaaGreatDoorValK
namespace Go.Proofs.YtekpdcofjhdiiaaGreatDoor.Val
open Go.RowKit Go.Maps
set_option linter.unusedVariables false
set_option linter.unusedSimpArgs false
set_option maxRecDepth 100000 in
set_option maxHeartbeats 2000000 in
theorem rreckon_add (a b : Int) (ha : I64 a) (hb : I64 b) (w : World) : Calls Tryz.prog 26 #[.int .u8 43, .int .i64 a, .int .i64 b] w (RecS w (optF (a + b))) := by
  have hl := radd_look ha hb
  have hz := fun h => wrap_fits (x := a + b) h
  obtain ⟨X, hX⟩ : ∃ X, a + b = X := ⟨_, rfl⟩
  rw [hX] at hl hz ⊢
  obtain ⟨S, hS⟩ : ∃ S, wrap64 X = S := ⟨_, rfl⟩
  rw [hS] at hl hz
  obtain ⟨P, hP⟩ : ∃ P, decide (0 ≤ b) = P := ⟨_, rfl⟩
  obtain ⟨Q, hQ⟩ : ∃ Q, decide (a ≤ S) = Q := ⟨_, rfl⟩
  rw [hP, hQ] at hl
  have HL := Lib.hid hl
  have HZ := Lib.hid hz
  clear hl hz ha hb
  go_enter Tryz.func26, Tryz.ntmps26
  go_wp2_with fail
  go_ret2
  first
    | exact rec_out HL.out (fun h => HZ.out (HL.out.symm.trans h)) (Below.refl _ _)
    | exact rec_out HL.out (fun h => hS.trans (HZ.out (HL.out.symm.trans h))) (Below.refl _ _)
set_option maxRecDepth 100000 in
set_option maxHeartbeats 2000000 in
theorem rreckon_sub (a b : Int) (ha : I64 a) (hb : I64 b) (w : World) : Calls Tryz.prog 26 #[.int .u8 45, .int .i64 a, .int .i64 b] w (RecS w (optF (a - b))) := by
  have hl := rsub_look ha hb
  have hz := fun h => wrap_fits (x := a - b) h
  obtain ⟨X, hX⟩ : ∃ X, a - b = X := ⟨_, rfl⟩
  rw [hX] at hl hz ⊢
  obtain ⟨S, hS⟩ : ∃ S, wrap64 X = S := ⟨_, rfl⟩
  rw [hS] at hl hz
  obtain ⟨P, hP⟩ : ∃ P, decide (b ≤ 0) = P := ⟨_, rfl⟩
  obtain ⟨Q, hQ⟩ : ∃ Q, decide (a ≤ S) = Q := ⟨_, rfl⟩
  rw [hP, hQ] at hl
  have HL := Lib.hid hl
  have HZ := Lib.hid hz
  clear hl hz ha hb
  go_enter Tryz.func26, Tryz.ntmps26
  go_wp2_with fail
  go_ret2
  first
    | exact rec_out HL.out (fun h => HZ.out (HL.out.symm.trans h)) (Below.refl _ _)
    | exact rec_out HL.out (fun h => hS.trans (HZ.out (HL.out.symm.trans h))) (Below.refl _ _)
set_option maxRecDepth 100000 in
set_option maxHeartbeats 2000000 in
theorem rreckon_mul (a b : Int) (ha : I64 a) (hb : I64 b) (w : World) : Calls Tryz.prog 26 #[.int .u8 42, .int .i64 a, .int .i64 b] w (RecS w (optF (a * b))) := by
  obtain ⟨V, hV⟩ : ∃ V, (if fits (a * b) then a * b else 0) = V := ⟨_, rfl⟩
  obtain ⟨B, hB⟩ : ∃ B, fits (a * b) = B := ⟨_, rfl⟩
  have HP := Lib.hid (show ∀ W, Calls Tryz.prog 52 #[.int .i64 a, .int .i64 b] W fun e w' => e = .returned (.tuple #[.int .i64 V, .bool B]) ∧ W = w' from fun W => by
    have h := product_any a b ha hb W
    unfold ProdS at h
    rw [hV, hB] at h
    exact h)
  have HV := Lib.hid (show B = true → V = a * b from fun h => by rw [← hV, hB, h]; rfl)
  have HB := Lib.hid hB
  clear ha hb hV hB
  go_enter Tryz.func26, Tryz.ntmps26
  go_wp2_with fail
  refine (HP.out _).mono ?_
  rintro e w1 ⟨rfl, rfl⟩
  go_wp2_with fail
  go_ret2
  exact rec_out HB.out.symm HV.out (Below.refl _ _)
set_option maxRecDepth 100000 in
set_option maxHeartbeats 2000000 in
theorem rreckon_div (op : UInt8) (h43 : (op == 43) = false) (h45 : (op == 45) = false) (h42 : (op == 42) = false) (a b : Int) (ha : I64 a) (hb : I64 b) (w : World) : Calls Tryz.prog 26 #[.int .u8 (op.toNat : Int), .int .i64 a, .int .i64 b] w (RecS w (optD a b)) := by
  have e43 : ((op.toNat : Int) == 43) = false := by rw [show (43 : Int) = ((43 : Nat) : Int) from rfl, op_num op 43 (by decide)]; exact h43
  have e45 : ((op.toNat : Int) == 45) = false := by rw [show (45 : Int) = ((45 : Nat) : Int) from rfl, op_num op 45 (by decide)]; exact h45
  have e42 : ((op.toNat : Int) == 42) = false := by rw [show (42 : Int) = ((42 : Nat) : Int) from rfl, op_num op 42 (by decide)]; exact h42
  clear h43 h45 h42
  by_cases h0 : b = 0
  · subst h0
    rw [show optD a 0 = none from if_pos (.inl rfl)]
    clear ha hb
    go_enter Tryz.func26, Tryz.ntmps26
    go_wp2_with fail
    go_ret2
    exact rec_no (Below.refl _ _)
  · have hb0 : (b == 0) = false := by simpa using h0
    by_cases hs : a = -9223372036854775808 ∧ b = -1
    · obtain ⟨rfl, rfl⟩ := hs
      rw [show optD (-9223372036854775808) (-1) = none from if_pos (.inr ⟨rfl, rfl⟩)]
      clear ha hb
      go_enter Tryz.func26, Tryz.ntmps26
      go_wp2_with fail
      go_ret2
      exact rec_no (Below.refl _ _)
    · rw [show optD a b = some (a.tdiv b) from if_neg (fun k => k.elim h0 hs)]
      have hq : wrap64 (a.tdiv b) = a.tdiv b := tdiv_i64 ha hs
      cases e1 : (a == -9223372036854775808)
      · clear hs ha hb
        go_enter Tryz.func26, Tryz.ntmps26
        go_wp2_with fail
        go_ret2
        exact rec_yes hq (Below.refl _ _)
      · have e2 : (b == -1) = false := beq_eq_false_iff_ne.2 (fun h => hs ⟨by simpa using e1, h⟩)
        clear hs ha hb
        go_enter Tryz.func26, Tryz.ntmps26
        go_wp2_with fail
        go_ret2
        exact rec_yes hq (Below.refl _ _)
theorem rreckon_any (op : UInt8) (a b : Int) (ha : I64 a) (hb : I64 b) (w : World) (o : Option Int) (ho : reckonP op a b = o) : Calls Tryz.prog 26 #[.int .u8 (op.toNat : Int), .int .i64 a, .int .i64 b] w (RecS w o) := by
  subst ho
  unfold reckonP
  cases h43 : (op == 43) with
  | true =>
    obtain rfl : op = 43 := by simpa using h43
    exact rreckon_add a b ha hb w
  | false =>
    cases h45 : (op == 45) with
    | true =>
      obtain rfl : op = 45 := by simpa using h45
      exact rreckon_sub a b ha hb w
    | false =>
      cases h42 : (op == 42) with
      | true =>
        obtain rfl : op = 42 := by simpa using h42
        exact rreckon_mul a b ha hb w
      | false => exact rreckon_div op h43 h45 h42 a b ha hb w
end Go.Proofs.YtekpdcofjhdiiaaGreatDoor.Val
