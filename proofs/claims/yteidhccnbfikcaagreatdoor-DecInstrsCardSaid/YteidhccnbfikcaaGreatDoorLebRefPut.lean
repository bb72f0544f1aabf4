/-
  What the document's own PutU, PutS, size and bit answer. No condition beyond what each theorem names.
-/
import Derived.Test.YteidhccnbfikcaaGreatDoorLbA
namespace Go.Proofs.YteidhccnbfikcaaGreatDoor.Leb
open Go.RowKit Go.Proofs.YteidhccnbfikcaaGreatDoor.Bytes
set_option linter.unusedVariables false

theorem and_mask_i64 (x : Int) (j : Nat) (hj : j ≤ 62) : bits .and .i64 x ((2 ^ j - 1 : Nat) : Int) = x % 2 ^ j := by
  unfold bits
  have h2 : (BitVec.ofInt 64 ((2 ^ j - 1 : Nat) : Int)).toNat = 2 ^ j - 1 := by
    rw [BitVec.ofInt_natCast, BitVec.toNat_ofNat]
    have : (2 : Nat) ^ j ≤ 2 ^ 62 := Nat.pow_le_pow_right (by decide) hj
    exact Nat.mod_eq_of_lt (by omega)
  show IntKind.i64.wrap ((BitVec.ofInt 64 x &&& BitVec.ofInt 64 ((2 ^ j - 1 : Nat) : Int)).toNat : Int) = _
  rw [BitVec.toNat_and, h2, Nat.and_two_pow_sub_one_eq_mod, BitVec.toNat_ofInt]
  have hp : (2 : Nat) ^ j ≤ 2 ^ 62 := Nat.pow_le_pow_right (by decide) hj
  have hp0 : 0 < (2 : Nat) ^ j := Nat.pow_pos (by decide)
  have e : (((x % 2 ^ 64).toNat % 2 ^ j : Nat) : Int) = x % 2 ^ j := by
    rw [Int.natCast_emod, Int.toNat_of_nonneg (Int.emod_nonneg _ (by decide)), Int.natCast_pow]
    show x % 2 ^ 64 % 2 ^ j = x % 2 ^ j
    refine Int.emod_emod_of_dvd _ ⟨2 ^ (64 - j), ?_⟩
    rw [← Int.pow_add]
    congr 1
    omega
  have e64 : ((2 ^ 64 : Nat) : Int) = 2 ^ 64 := rfl
  have hc : ((2 ^ j : Nat) : Int) = 2 ^ j := by rw [Int.natCast_pow]; rfl
  have hlt := Int.emod_lt_of_pos x (show (0 : Int) < 2 ^ j by omega)
  have hge := Int.emod_nonneg x (show (2 : Int) ^ j ≠ 0 by omega)
  rw [e64, e, IntKind.wrap_i64]
  omega
theorem and127i (rem : Int) : bits .and .i64 rem 127 = rem % 128 := and_mask_i64 rem 7 (by decide)
theorem and1i (x : Int) : bits .and .i64 x 1 = x % 2 := and_mask_i64 x 1 (by decide)

set_option maxRecDepth 100000 in
set_option maxHeartbeats 400000 in
theorem refPutU_any (n : Nat) (w : World) (hn : n < 2 ^ 64) :
    Calls Tryz.prog 129 #[.int .u64 n] w fun e w' => e = .returned (.string ⟨(putU 10 n).toArray⟩) ∧ Below w.heap.size w w' := by
  obtain ⟨i0, hi, hz0, hz1, hz2⟩ := info_parts info_u8
  have HN := Lib.hid hn
  clear hn
  go_enter Tryz.func129, Tryz.ntmps129
  go_wp2
  go_loopw [0, 3] (fun nv v wr => ∃ (j rem : Nat) (acc : List UInt8), acc.length = j ∧ j ≤ 9 ∧ rem < 2 ^ (7 * (10 - j)) ∧ putU 10 n = acc ++ putU (10 - j) rem ∧ nv = .int .u64 rem ∧ wr.ownsRow w.heap.size 5 1 v j (cellsOf acc) ∧ Below w.heap.size w wr) (fun nv _ _ => (intOf nv).toNat)
  case atStart => exact ⟨0, n, [], rfl, by omega, by have := HN.out; omega, rfl, rfl, World.ownsRow_nil _ _ _ _, Below.refl _ _⟩
  case round =>
    obtain ⟨j, rem, acc, hj, hj9, hrem, hput, rfl, hown, hbel⟩ := hrel
    have HJ := Lib.hid hj
    have HR := Lib.hid hrem
    have HP := Lib.hid hput
    clear hj hrem hput
    by_cases h : 128 ≤ rem
    · have hj8 : j ≤ 8 := by
        have hr := HR.out
        by_cases e : j = 9
        · subst e; simp at hr; omega
        · omega
      have hw : IntKind.u64.wrap ((rem : Int) / 128) = (rem : Int) / 128 := by
        have hr := HR.out
        have : (2 : Nat) ^ (7 * (10 - j)) ≤ 2 ^ 70 := Nat.pow_le_pow_right (by decide) (by omega)
        rw [IntKind.wrap_u64]
        omega
      have HB := Lib.hid (show ((rem : Int) % 128 + 128) = ((UInt8.ofNat (rem % 128 + 128)).toNat : Int) by rw [toNat_ofNat (by omega)]; omega)
      go_wp2_with (at_builtin; refine wpList_append_own _ rfl _ _ 45 rfl w.heap.size 5 i0 (.int .u8 0) 1 1 Tryz.underlying45 hi hz0 hz1 hz2 rfl (by decide) _ _ _ rfl (hown.alloc _) ⟨wr.heap.size, 0, none⟩ 1 1 [.int .u8 ((rem : Int) % 128 + 128)] rfl rfl ?c1 ?c2 ?c3 ?c4 ?c5 ?_)
      try (case c1 => exact cell_one_new _ _ _)
      case c2 => simp [Value.oneCell']
      case c3 => unfold maxLen; omega
      case c4 => omega
      case c5 => have := hbel.size; simp; omega
      intro v' w1 hown1 hgrow _
      have hown2 : w1.ownsRow w.heap.size 5 1 v' (j + 1) (cellsOf (acc ++ [UInt8.ofNat (rem % 128 + 128)])) := by
        rw [cellsOf_append, cellsOf_one, ← HB.out]; exact hown1
      have hbel1 : Below w.heap.size w w1 := by
        exact (hbel.alloc hbel.size _).grown hgrow (by have := hbel.size; simp; omega) (fun k hk => (hown.lt k hk).1)
      clear hown1 hgrow
      go_wp2
      go_roundw
      case rel =>
        refine ⟨j + 1, rem / 128, acc ++ [UInt8.ofNat (rem % 128 + 128)], by simp [HJ.out], by omega, ?_, ?_, by go_num, hown2, hbel1⟩
        · have hr := HR.out
          have e : (2 : Nat) ^ (7 * (10 - j)) = 128 * 2 ^ (7 * (10 - (j + 1))) := by
            rw [show 7 * (10 - j) = 7 + 7 * (10 - (j + 1)) by omega, Nat.pow_add]
          omega
        · rw [HP.out, show 10 - j = (10 - (j + 1)) + 1 by omega]
          simp only [putU, if_neg (show ¬ rem < 128 by omega)]
          simp
      case measure => simp [intOf]; omega
    · have HB := Lib.hid (byte_low rem (by omega))
      go_wp2_with (at_builtin; refine wpList_append_own _ rfl _ _ 45 rfl w.heap.size 5 i0 (.int .u8 0) 1 1 Tryz.underlying45 hi hz0 hz1 hz2 rfl (by decide) _ _ _ rfl (hown.alloc _) ⟨wr.heap.size, 0, none⟩ 1 1 [.int .u8 (rem : Int)] rfl rfl ?c1 ?c2 ?c3 ?c4 ?c5 ?_)
      try (case c1 => exact cell_one_new _ _ _)
      case c2 => simp [Value.oneCell']
      case c3 => unfold maxLen; omega
      case c4 => omega
      case c5 => have := hbel.size; simp; omega
      intro v' w1 hown1 hgrow _
      have hown2 : w1.ownsRow w.heap.size 5 1 v' (j + 1) (cellsOf (acc ++ [UInt8.ofNat rem])) := by
        rw [cellsOf_append, cellsOf_one, HB.out]; exact hown1
      have hbel1 : Below w.heap.size w w1 := by
        exact (hbel.alloc hbel.size _).grown hgrow (by have := hbel.size; simp; omega) (fun k hk => (hown.lt k hk).1)
      have hcv := run_convert_own (P := Tryz.prog) (src := 45) (dst := 9) Tryz.underlying45 Tryz.underlying5 Tryz.underlying9 hown2
      clear hown1 hgrow
      have HE := Lib.hid (show putU 10 n = acc ++ [UInt8.ofNat rem] by
        rw [HP.out, show 10 - j = (9 - j) + 1 by omega]
        simp only [putU, if_pos (show rem < 128 by omega)])
      go_wp2
      go_ret
      exact ⟨by rw [HE.out]; rfl, hbel1⟩

set_option maxRecDepth 100000 in
set_option maxHeartbeats 400000 in
theorem refPutS_any (n : Int) (w : World) (hn : -(2 ^ 63) ≤ n ∧ n < 2 ^ 63) :
    Calls Tryz.prog 67 #[.int .i64 n] w fun e w' => e = .returned (.string ⟨(putS 10 n).toArray⟩) ∧ Below w.heap.size w w' := by
  obtain ⟨i0, hi, hz0, hz1, hz2⟩ := info_parts info_u8
  have HN := Lib.hid hn
  clear hn
  go_enter Tryz.func67, Tryz.ntmps67
  go_wp2
  go_loopw [0, 3] (fun nv v wr => ∃ (j : Nat) (rem : Int) (acc : List UInt8), acc.length = j ∧ j ≤ 9 ∧ (-(2 ^ (7 * (10 - j)) : Int) ≤ 2 * rem ∧ 2 * rem < (2 ^ (7 * (10 - j)) : Int)) ∧ putS 10 n = acc ++ putS (10 - j) rem ∧ nv = .int .i64 rem ∧ wr.ownsRow w.heap.size 5 1 v j (cellsOf acc) ∧ Below w.heap.size w wr) (fun nv _ _ => (intOf nv).natAbs)
  case atStart => exact ⟨0, n, [], rfl, by omega, by have := HN.out; omega, rfl, rfl, World.ownsRow_nil _ _ _ _, Below.refl _ _⟩
  case round =>
    obtain ⟨j, rem, acc, hj, hj9, hrem, hput, rfl, hown, hbel⟩ := hrel
    have HJ := Lib.hid hj
    have HR := Lib.hid hrem
    have HP := Lib.hid hput
    clear hj hrem hput
    have hand : bits .and .i64 rem 127 = rem % 128 := and127i rem
    by_cases c1 : 0 ≤ rem ∧ rem < 64
    · have hq : (rem / 128 == 0) = true := by rw [beq_iff_eq]; omega
      have hb : rem % 128 < 64 := by omega
      have HE := Lib.hid (show putS 10 n = acc ++ [UInt8.ofNat (rem % 128).toNat] by
        rw [HP.out, show 10 - j = (9 - j) + 1 by omega]
        simp only [putS, if_pos (show -64 ≤ rem ∧ rem < 64 by omega)])
      have HB := Lib.hid (show rem % 128 = ((UInt8.ofNat (rem % 128).toNat).toNat : Int) by rw [toNat_ofNat (by omega)]; omega)
      go_wp2_with (at_builtin; refine wpList_append_own _ rfl _ _ 45 rfl w.heap.size 5 i0 (.int .u8 0) 1 1 Tryz.underlying45 hi hz0 hz1 hz2 rfl (by decide) _ _ _ rfl (hown.alloc _) ⟨wr.heap.size, 0, none⟩ 1 1 [.int .u8 (rem % 128)] rfl rfl ?c1 ?c2 ?c3 ?c4 ?c5 ?_)
      try (case c1 => exact cell_one_new _ _ _)
      case c2 => simp [Value.oneCell']
      case c3 => unfold maxLen; omega
      case c4 => omega
      case c5 => have := hbel.size; simp; omega
      intro v' w1 hown1 hgrow _
      have hown2 : w1.ownsRow w.heap.size 5 1 v' (j + 1) (cellsOf (acc ++ [UInt8.ofNat (rem % 128).toNat])) := by
        rw [cellsOf_append, cellsOf_one, ← HB.out]; exact hown1
      have hbel1 : Below w.heap.size w w1 := by
        exact (hbel.alloc hbel.size _).grown hgrow (by have := hbel.size; simp; omega) (fun k hk => (hown.lt k hk).1)
      have hcv := run_convert_own (P := Tryz.prog) (src := 45) (dst := 9) Tryz.underlying45 Tryz.underlying5 Tryz.underlying9 hown2
      clear hown1 hgrow
      go_wp2
      go_ret
      exact ⟨by rw [HE.out]; rfl, hbel1⟩
    · by_cases c2 : 64 ≤ rem ∧ rem < 128
      · have hq : (rem / 128 == 0) = true := by rw [beq_iff_eq]; omega
        have hq1 : (rem / 128 == -1) = false := by rw [beq_eq_false_iff_ne]; omega
        have hb : 64 ≤ rem % 128 := by omega
        have hj8 : j ≤ 8 := by
          by_cases e : j = 9
          · have hr := HR.out
            subst e
            simp at hr
            omega
          · omega
        have HB := Lib.hid (show rem % 128 + 128 = ((UInt8.ofNat ((rem % 128).toNat + 128)).toNat : Int) by rw [toNat_ofNat (by omega)]; omega)
        go_wp2_with (at_builtin; refine wpList_append_own _ rfl _ _ 45 rfl w.heap.size 5 i0 (.int .u8 0) 1 1 Tryz.underlying45 hi hz0 hz1 hz2 rfl (by decide) _ _ _ rfl (hown.alloc _) ⟨wr.heap.size, 0, none⟩ 1 1 [.int .u8 (rem % 128 + 128)] rfl rfl ?d1 ?d2 ?d3 ?d4 ?d5 ?_)
        try (case d1 => exact cell_one_new _ _ _)
        case d2 => simp [Value.oneCell']
        case d3 => unfold maxLen; omega
        case d4 => omega
        case d5 => have := hbel.size; simp; omega
        intro v' w1 hown1 hgrow _
        have hown2 : w1.ownsRow w.heap.size 5 1 v' (j + 1) (cellsOf (acc ++ [UInt8.ofNat ((rem % 128).toNat + 128)])) := by
          rw [cellsOf_append, cellsOf_one, ← HB.out]; exact hown1
        have hbel1 : Below w.heap.size w w1 := by
          exact (hbel.alloc hbel.size _).grown hgrow (by have := hbel.size; simp; omega) (fun k hk => (hown.lt k hk).1)
        clear hown1 hgrow
        go_wp2
        go_roundw
        case rel =>
          refine ⟨j + 1, rem / 128, acc ++ [UInt8.ofNat ((rem % 128).toNat + 128)], by simp [HJ.out], by omega, ?_, ?_, rfl, hown2, hbel1⟩
          · exact putS_room rem j hj8 HR.out
          · rw [HP.out, show 10 - j = (10 - (j + 1)) + 1 by omega]
            simp only [putS, if_neg (show ¬ (-64 ≤ rem ∧ rem < 64) by omega)]
            simp
        case measure => simp [intOf]; omega
      · by_cases c3 : -64 ≤ rem ∧ rem < 0
        · have hq : (rem / 128 == 0) = false := by rw [beq_eq_false_iff_ne]; omega
          have hq1 : (rem / 128 == -1) = true := by rw [beq_iff_eq]; omega
          have hb : 64 ≤ rem % 128 := by omega
          have HE := Lib.hid (show putS 10 n = acc ++ [UInt8.ofNat (rem % 128).toNat] by
            rw [HP.out, show 10 - j = (9 - j) + 1 by omega]
            simp only [putS, if_pos (show -64 ≤ rem ∧ rem < 64 by omega)])
          have HB := Lib.hid (show rem % 128 = ((UInt8.ofNat (rem % 128).toNat).toNat : Int) by rw [toNat_ofNat (by omega)]; omega)
          go_wp2_with (at_builtin; refine wpList_append_own _ rfl _ _ 45 rfl w.heap.size 5 i0 (.int .u8 0) 1 1 Tryz.underlying45 hi hz0 hz1 hz2 rfl (by decide) _ _ _ rfl (hown.alloc _) ⟨wr.heap.size, 0, none⟩ 1 1 [.int .u8 (rem % 128)] rfl rfl ?e1 ?e2 ?e3 ?e4 ?e5 ?_)
          try (case e1 => exact cell_one_new _ _ _)
          case e2 => simp [Value.oneCell']
          case e3 => unfold maxLen; omega
          case e4 => omega
          case e5 => have := hbel.size; simp; omega
          intro v' w1 hown1 hgrow _
          have hown2 : w1.ownsRow w.heap.size 5 1 v' (j + 1) (cellsOf (acc ++ [UInt8.ofNat (rem % 128).toNat])) := by
            rw [cellsOf_append, cellsOf_one, ← HB.out]; exact hown1
          have hbel1 : Below w.heap.size w w1 := by
            exact (hbel.alloc hbel.size _).grown hgrow (by have := hbel.size; simp; omega) (fun k hk => (hown.lt k hk).1)
          have hcv := run_convert_own (P := Tryz.prog) (src := 45) (dst := 9) Tryz.underlying45 Tryz.underlying5 Tryz.underlying9 hown2
          clear hown1 hgrow
          go_wp2
          go_ret
          exact ⟨by rw [HE.out]; rfl, hbel1⟩
        · by_cases c4 : -128 ≤ rem ∧ rem < -64
          · have hq : (rem / 128 == 0) = false := by rw [beq_eq_false_iff_ne]; omega
            have hq1 : (rem / 128 == -1) = true := by rw [beq_iff_eq]; omega
            have hb : rem % 128 < 64 := by omega
            have hj8 : j ≤ 8 := by
              by_cases e : j = 9
              · have hr := HR.out
                subst e
                simp at hr
                omega
              · omega
            have HB := Lib.hid (show rem % 128 + 128 = ((UInt8.ofNat ((rem % 128).toNat + 128)).toNat : Int) by rw [toNat_ofNat (by omega)]; omega)
            go_wp2_with (at_builtin; refine wpList_append_own _ rfl _ _ 45 rfl w.heap.size 5 i0 (.int .u8 0) 1 1 Tryz.underlying45 hi hz0 hz1 hz2 rfl (by decide) _ _ _ rfl (hown.alloc _) ⟨wr.heap.size, 0, none⟩ 1 1 [.int .u8 (rem % 128 + 128)] rfl rfl ?f1 ?f2 ?f3 ?f4 ?f5 ?_)
            try (case f1 => exact cell_one_new _ _ _)
            case f2 => simp [Value.oneCell']
            case f3 => unfold maxLen; omega
            case f4 => omega
            case f5 => have := hbel.size; simp; omega
            intro v' w1 hown1 hgrow _
            have hown2 : w1.ownsRow w.heap.size 5 1 v' (j + 1) (cellsOf (acc ++ [UInt8.ofNat ((rem % 128).toNat + 128)])) := by
              rw [cellsOf_append, cellsOf_one, ← HB.out]; exact hown1
            have hbel1 : Below w.heap.size w w1 := by
              exact (hbel.alloc hbel.size _).grown hgrow (by have := hbel.size; simp; omega) (fun k hk => (hown.lt k hk).1)
            clear hown1 hgrow
            go_wp2
            go_roundw
            case rel =>
              refine ⟨j + 1, rem / 128, acc ++ [UInt8.ofNat ((rem % 128).toNat + 128)], by simp [HJ.out], by omega, ?_, ?_, rfl, hown2, hbel1⟩
              · exact putS_room rem j hj8 HR.out
              · rw [HP.out, show 10 - j = (10 - (j + 1)) + 1 by omega]
                simp only [putS, if_neg (show ¬ (-64 ≤ rem ∧ rem < 64) by omega)]
                simp
            case measure => simp [intOf]; omega
          · have hq : (rem / 128 == 0) = false := by rw [beq_eq_false_iff_ne]; omega
            have hq1 : (rem / 128 == -1) = false := by rw [beq_eq_false_iff_ne]; omega
            have hj8 : j ≤ 8 := by
              by_cases e : j = 9
              · have hr := HR.out
                subst e
                simp at hr
                omega
              · omega
            have HB := Lib.hid (show rem % 128 + 128 = ((UInt8.ofNat ((rem % 128).toNat + 128)).toNat : Int) by rw [toNat_ofNat (by omega)]; omega)
            go_wp2_with (at_builtin; refine wpList_append_own _ rfl _ _ 45 rfl w.heap.size 5 i0 (.int .u8 0) 1 1 Tryz.underlying45 hi hz0 hz1 hz2 rfl (by decide) _ _ _ rfl (hown.alloc _) ⟨wr.heap.size, 0, none⟩ 1 1 [.int .u8 (rem % 128 + 128)] rfl rfl ?g1 ?g2 ?g3 ?g4 ?g5 ?_)
            try (case g1 => exact cell_one_new _ _ _)
            case g2 => simp [Value.oneCell']
            case g3 => unfold maxLen; omega
            case g4 => omega
            case g5 => have := hbel.size; simp; omega
            intro v' w1 hown1 hgrow _
            have hown2 : w1.ownsRow w.heap.size 5 1 v' (j + 1) (cellsOf (acc ++ [UInt8.ofNat ((rem % 128).toNat + 128)])) := by
              rw [cellsOf_append, cellsOf_one, ← HB.out]; exact hown1
            have hbel1 : Below w.heap.size w w1 := by
              exact (hbel.alloc hbel.size _).grown hgrow (by have := hbel.size; simp; omega) (fun k hk => (hown.lt k hk).1)
            clear hown1 hgrow
            go_wp2
            go_roundw
            case rel =>
              refine ⟨j + 1, rem / 128, acc ++ [UInt8.ofNat ((rem % 128).toNat + 128)], by simp [HJ.out], by omega, ?_, ?_, rfl, hown2, hbel1⟩
              · exact putS_room rem j hj8 HR.out
              · rw [HP.out, show 10 - j = (10 - (j + 1)) + 1 by omega]
                simp only [putS, if_neg (show ¬ (-64 ≤ rem ∧ rem < 64) by omega)]
                simp
            case measure => simp [intOf]; omega
end Go.Proofs.YteidhccnbfikcaaGreatDoor.Leb
