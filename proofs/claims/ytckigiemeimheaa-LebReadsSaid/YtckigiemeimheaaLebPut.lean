/-
  What leb.PutU and leb.PutS answer. No condition beyond what each theorem names.
-/
import Derived.Test.YtckigiemeimheaaProg
import Derived.Test.YtckigiemeimheaaLebBits
import Derived.Test.YtckigiemeimheaaBytes
import Derived.WalkKit
import Derived.WalkSpells
import Derived.WalkLawsBesides
import Derived.Lib.Hide
namespace Go.Proofs.Ytckigiemeimheaa.Leb
open Go.RowKit Go.Proofs.Ytckigiemeimheaa.Bytes
set_option linter.unusedVariables false

theorem info_u8 : (Try.prog.info? 5).map (fun i => (i.zero, i.size, i.bytes)) = some (some (.int .u8 0), 1, 1) := by kernel_rfl

set_option maxRecDepth 100000 in
set_option maxHeartbeats 400000 in
theorem putU_any (n : Nat) (w : World) (hn : n < 2 ^ 64) :
    Calls Try.prog 12 #[.int .u64 n] w fun e w' => e = .returned (.string ⟨(putU 10 n).toArray⟩) ∧ Below w.heap.size w w' := by
  obtain ⟨i0, hi, hz0, hz1, hz2⟩ := info_parts info_u8
  have HN := Lib.hid hn
  clear hn
  go_enter Try.func12, Try.ntmps12
  go_wp2
  go_loopw [0, 3] (fun nv v wr => ∃ (j rem : Nat) (acc : List UInt8), acc.length = j ∧ j ≤ 9 ∧ rem < 2 ^ (7 * (10 - j)) ∧ putU 10 n = acc ++ putU (10 - j) rem ∧ nv = .int .u64 rem ∧ wr.ownsRow w.heap.size 5 1 v j (cellsOf acc) ∧ Below w.heap.size w wr) (fun nv _ _ => (intOf nv).toNat)
  case atStart => exact ⟨0, n, [], rfl, by omega, by have := HN.out; omega, rfl, rfl, World.ownsRow_nil _ _ _ _, Below.refl _ _⟩
  case round =>
    obtain ⟨j, rem, acc, hj, hj9, hrem, hput, rfl, hown, hbel⟩ := hrel
    have HJ := Lib.hid hj
    have HR := Lib.hid hrem
    have HP := Lib.hid hput
    clear hj hrem hput
    have hj' : acc.length = j := HJ.out
    by_cases h : 127 < rem
    · have hj8 : j ≤ 8 := by
        have hr := HR.out
        by_cases e : j = 9
        · subst e; simp at hr; omega
        · omega
      have HB := Lib.hid (or128 rem)
      clear hj'
      go_wp2_with (at_builtin; refine wpList_append_own _ rfl _ _ 38 rfl w.heap.size 5 i0 (.int .u8 0) 1 1 Try.underlying38 hi hz0 hz1 hz2 rfl (by decide) _ _ _ rfl (hown.alloc _) ⟨wr.heap.size, 0, none⟩ 1 1 [.int .u8 (bits .or .u8 ((rem : Int) % 256) 128)] rfl rfl ?c1 ?c2 ?c3 ?c4 ?c5 ?_)
      case c1 => exact cell_one_new _ _ _
      case c2 => simp [Value.oneCell']
      case c3 => unfold maxLen; omega
      case c4 => omega
      case c5 => have := hbel.size; simp; omega
      intro v' w1 hown1 hgrow _
      have hown2 : w1.ownsRow w.heap.size 5 1 v' (j + 1) (cellsOf (acc ++ [UInt8.ofNat (rem % 128 + 128)])) := by
        rw [cellsOf_append, cellsOf_one, ← HB.out]; exact hown1
      have hbel1 : Below w.heap.size w w1 := by
        exact (hbel.alloc hbel.size _).grown hgrow (by have := hbel.size; simp; omega) (fun k hk => (hown.lt k hk).1)
      clear hown1 hgrow
      go_wp2
      go_roundw
      case rel =>
        refine ⟨j + 1, rem / 128, acc ++ [UInt8.ofNat (rem % 128 + 128)], by simp [HJ.out], by omega, ?_, ?_, by go_num, hown2, hbel1⟩
        · have hr := HR.out
          have e : (2 : Nat) ^ (7 * (10 - j)) = 128 * 2 ^ (7 * (10 - (j + 1))) := by
            rw [show 7 * (10 - j) = 7 + 7 * (10 - (j + 1)) by omega, Nat.pow_add]
          omega
        · rw [HP.out, show 10 - j = (10 - (j + 1)) + 1 by omega]
          simp only [putU, if_neg (show ¬ rem < 128 by omega)]
          simp
      case measure => simp [intOf]; omega
    · have HB := Lib.hid (byte_low rem (by omega))
      clear hj'
      go_wp2_with (at_builtin; refine wpList_append_own _ rfl _ _ 38 rfl w.heap.size 5 i0 (.int .u8 0) 1 1 Try.underlying38 hi hz0 hz1 hz2 rfl (by decide) _ _ _ rfl (hown.alloc _) ⟨wr.heap.size, 0, none⟩ 1 1 [.int .u8 (rem : Int)] rfl rfl ?c1 ?c2 ?c3 ?c4 ?c5 ?_)
      case c1 => exact cell_one_new _ _ _
      case c2 => simp [Value.oneCell']
      case c3 => unfold maxLen; omega
      case c4 => omega
      case c5 => have := hbel.size; simp; omega
      intro v' w1 hown1 hgrow _
      have hown2 : w1.ownsRow w.heap.size 5 1 v' (j + 1) (cellsOf (acc ++ [UInt8.ofNat rem])) := by
        rw [cellsOf_append, cellsOf_one, HB.out]; exact hown1
      have hbel1 : Below w.heap.size w w1 := by
        exact (hbel.alloc hbel.size _).grown hgrow (by have := hbel.size; simp; omega) (fun k hk => (hown.lt k hk).1)
      have hcv := run_convert_own (P := Try.prog) (src := 38) (dst := 9) Try.underlying38 Try.underlying5 Try.underlying9 hown2
      clear hown1 hgrow
      have HE := Lib.hid (show putU 10 n = acc ++ [UInt8.ofNat rem] by
        rw [HP.out, show 10 - j = (9 - j) + 1 by omega]
        simp only [putU, if_pos (show rem < 128 by omega)])
      go_wp2
      go_ret
      exact ⟨by rw [HE.out]; rfl, hbel1⟩

set_option maxRecDepth 100000 in
set_option maxHeartbeats 400000 in
theorem putS_any (n : Int) (w : World) (hn : -(2 ^ 63) ≤ n ∧ n < 2 ^ 63) :
    Calls Try.prog 14 #[.int .i64 n] w fun e w' => e = .returned (.string ⟨(putS 10 n).toArray⟩) ∧ Below w.heap.size w w' := by
  obtain ⟨i0, hi, hz0, hz1, hz2⟩ := info_parts info_u8
  have HN := Lib.hid hn
  clear hn
  go_enter Try.func14, Try.ntmps14
  go_wp2
  go_loopw [0, 3] (fun nv v wr => ∃ (j : Nat) (rem : Int) (acc : List UInt8), acc.length = j ∧ j ≤ 9 ∧ (-(2 ^ (7 * (10 - j)) : Int) ≤ 2 * rem ∧ 2 * rem < (2 ^ (7 * (10 - j)) : Int)) ∧ putS 10 n = acc ++ putS (10 - j) rem ∧ nv = .int .i64 rem ∧ wr.ownsRow w.heap.size 5 1 v j (cellsOf acc) ∧ Below w.heap.size w wr) (fun nv _ _ => (intOf nv).natAbs)
  case atStart => exact ⟨0, n, [], rfl, by omega, by have := HN.out; omega, rfl, rfl, World.ownsRow_nil _ _ _ _, Below.refl _ _⟩
  case round =>
    obtain ⟨j, rem, acc, hj, hj9, hrem, hput, rfl, hown, hbel⟩ := hrel
    have HJ := Lib.hid hj
    have HR := Lib.hid hrem
    have HP := Lib.hid hput
    clear hj hrem hput
    have HB := Lib.hid (or128s rem)
    have h9 : j = 9 → -64 ≤ rem ∧ rem < 64 := by
      intro e
      have hr := HR.out
      subst e
      simp at hr
      omega
    by_cases h1 : rem < -64
    · have hj8 : j ≤ 8 := by
        by_cases e : j = 9
        · have := h9 e; omega
        · omega
      clear h9
      go_wp2_with (at_builtin; refine wpList_append_own _ rfl _ _ 38 rfl w.heap.size 5 i0 (.int .u8 0) 1 1 Try.underlying38 hi hz0 hz1 hz2 rfl (by decide) _ _ _ rfl (hown.alloc _) ⟨wr.heap.size, 0, none⟩ 1 1 [.int .u8 (bits .or .u8 (rem % 256) 128)] rfl rfl ?c1 ?c2 ?c3 ?c4 ?c5 ?_)
      case c1 => exact cell_one_new _ _ _
      case c2 => simp [Value.oneCell']
      case c3 => unfold maxLen; omega
      case c4 => omega
      case c5 => have := hbel.size; simp; omega
      intro v' w1 hown1 hgrow _
      have hown2 : w1.ownsRow w.heap.size 5 1 v' (j + 1) (cellsOf (acc ++ [UInt8.ofNat ((rem % 128).toNat + 128)])) := by
        rw [cellsOf_append, cellsOf_one, ← HB.out]; exact hown1
      have hbel1 : Below w.heap.size w w1 := by
        exact (hbel.alloc hbel.size _).grown hgrow (by have := hbel.size; simp; omega) (fun k hk => (hown.lt k hk).1)
      clear hown1 hgrow
      go_wp2
      go_roundw
      case rel =>
        refine ⟨j + 1, rem / 128, acc ++ [UInt8.ofNat ((rem % 128).toNat + 128)], by simp [HJ.out], by omega, ?_, ?_, rfl, hown2, hbel1⟩
        · exact putS_room rem j hj8 HR.out
        · rw [HP.out, show 10 - j = (10 - (j + 1)) + 1 by omega]
          simp only [putS, if_neg (show ¬ (-64 ≤ rem ∧ rem < 64) by omega)]
          simp
      case measure => simp [intOf]; omega
    · by_cases h2 : 64 ≤ rem
      · have hj8 : j ≤ 8 := by
          by_cases e : j = 9
          · have := h9 e; omega
          · omega
        clear h9
        go_wp2_with (at_builtin; refine wpList_append_own _ rfl _ _ 38 rfl w.heap.size 5 i0 (.int .u8 0) 1 1 Try.underlying38 hi hz0 hz1 hz2 rfl (by decide) _ _ _ rfl (hown.alloc _) ⟨wr.heap.size, 0, none⟩ 1 1 [.int .u8 (bits .or .u8 (rem % 256) 128)] rfl rfl ?d1 ?d2 ?d3 ?d4 ?d5 ?_)
        try (case d1 => exact cell_one_new _ _ _)
        case d2 => simp [Value.oneCell']
        case d3 => unfold maxLen; omega
        case d4 => omega
        case d5 => have := hbel.size; simp; omega
        intro v' w1 hown1 hgrow _
        have hown2 : w1.ownsRow w.heap.size 5 1 v' (j + 1) (cellsOf (acc ++ [UInt8.ofNat ((rem % 128).toNat + 128)])) := by
          rw [cellsOf_append, cellsOf_one, ← HB.out]; exact hown1
        have hbel1 : Below w.heap.size w w1 := by
          exact (hbel.alloc hbel.size _).grown hgrow (by have := hbel.size; simp; omega) (fun k hk => (hown.lt k hk).1)
        clear hown1 hgrow
        go_wp2
        go_roundw
        case rel =>
          refine ⟨j + 1, rem / 128, acc ++ [UInt8.ofNat ((rem % 128).toNat + 128)], by simp [HJ.out], by omega, ?_, ?_, rfl, hown2, hbel1⟩
          · exact putS_room rem j hj8 HR.out
          · rw [HP.out, show 10 - j = (10 - (j + 1)) + 1 by omega]
            simp only [putS, if_neg (show ¬ (-64 ≤ rem ∧ rem < 64) by omega)]
            simp
        case measure => simp [intOf]; omega
      · clear h9 HB
        have HB := Lib.hid (and127s rem)
        go_wp2_with (at_builtin; refine wpList_append_own _ rfl _ _ 38 rfl w.heap.size 5 i0 (.int .u8 0) 1 1 Try.underlying38 hi hz0 hz1 hz2 rfl (by decide) _ _ _ rfl (hown.alloc _) ⟨wr.heap.size, 0, none⟩ 1 1 [.int .u8 (bits .and .u8 (rem % 256) 127)] rfl rfl ?e1 ?e2 ?e3 ?e4 ?e5 ?_)
        try (case e1 => exact cell_one_new _ _ _)
        case e2 => simp [Value.oneCell']
        case e3 => unfold maxLen; omega
        case e4 => omega
        case e5 => have := hbel.size; simp; omega
        intro v' w1 hown1 hgrow _
        have hown2 : w1.ownsRow w.heap.size 5 1 v' (j + 1) (cellsOf (acc ++ [UInt8.ofNat (rem % 128).toNat])) := by
          rw [cellsOf_append, cellsOf_one, ← HB.out]; exact hown1
        have hbel1 : Below w.heap.size w w1 := by
          exact (hbel.alloc hbel.size _).grown hgrow (by have := hbel.size; simp; omega) (fun k hk => (hown.lt k hk).1)
        have hcv := run_convert_own (P := Try.prog) (src := 38) (dst := 9) Try.underlying38 Try.underlying5 Try.underlying9 hown2
        clear hown1 hgrow
        have HE := Lib.hid (show putS 10 n = acc ++ [UInt8.ofNat (rem % 128).toNat] by
          rw [HP.out, show 10 - j = (9 - j) + 1 by omega]
          simp only [putS, if_pos (show -64 ≤ rem ∧ rem < 64 by omega)])
        go_wp2
        go_ret
        exact ⟨by rw [HE.out]; rfl, hbel1⟩
end Go.Proofs.Ytckigiemeimheaa.Leb
