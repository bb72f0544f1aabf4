/-
  What the document's own take answers, with and without a sign, of 32 and of 64 bits; and U32, S32, U64, S64. No condition beyond what each theorem names.
-/
import Derived.Test.YtckigiemeimheaaLebRefB
namespace Go.Proofs.Ytckigiemeimheaa.Leb
open Go.RowKit
set_option linter.unusedVariables false

/-- one bit more -/
theorem or_bit (Z : Int) (j : Nat) (hj : j ≤ 63) (h : zb Z j = 1) : bits .or .u64 (Z % 2 ^ j) (IntKind.u64.wrap (2 ^ j)) = Z % 2 ^ (j + 1) := by
  have hp := pow_pos2 j
  have hc : ((2 ^ j : Nat) : Int) = 2 ^ j := by rw [Int.natCast_pow]; rfl
  have h63 : (2 : Nat) ^ j ≤ 2 ^ 63 := Nat.pow_le_pow_right (by decide) hj
  have h0 := Int.emod_nonneg Z (show (2 : Int) ^ j ≠ 0 by omega)
  have h1 := Int.emod_lt_of_pos Z hp
  have e1 : IntKind.u64.wrap (2 ^ j) = ((2 ^ j : Nat) : Int) := by rw [IntKind.wrap_u64, hc]; omega
  obtain ⟨r, hr⟩ := Int.eq_ofNat_of_zero_le h0
  rw [low_step, h, hr, e1, bits_or_u64_nat _ _ (by omega) (by omega), Nat.or_comm]
  have := Nat.two_pow_add_eq_or_of_lt (show r < 2 ^ j by omega) 1
  rw [Nat.mul_one] at this
  rw [← this]
  omega
theorem no_bit (Z : Int) (j : Nat) (h : zb Z j = 0) : Z % 2 ^ j = Z % 2 ^ (j + 1) := by rw [low_step, h]; simp

/-- the highest bit of what has been read -/
theorem top_bit (Z : Int) (b : Nat) (hb : b ≤ 63) : bits .and .u64 (Z % 2 ^ (b + 1) / 2 ^ b) 1 = zb Z b := by
  have hp := pow_pos2 b
  have h0 := Int.emod_nonneg Z (show (2 : Int) ^ b ≠ 0 by omega)
  have h1 := Int.emod_lt_of_pos Z hp
  have e : Z % 2 ^ (b + 1) / 2 ^ b = zb Z b := by
    rw [low_step, Int.add_mul_ediv_left _ _ (by omega), Int.ediv_eq_zero_of_lt h0 h1, Int.zero_add]
  rw [e]
  rcases zb_01 Z b with h | h <;> rw [h] <;> rfl


set_option maxRecDepth 100000 in
set_option maxHeartbeats 2000000 in
theorem refTake_u32 (s : ByteArray) (at_ : Int) (w : World) (hs : s.size ≤ maxLen) :
    Calls Try.prog 28 #[.string s, .int .i64 at_, .int .i64 32, .bool false] w fun e w' =>
      e = .returned (.tuple #[.int .u64 (refA 32 false s.data.toList at_).1, .int .i64 (refA 32 false s.data.toList at_).2.1, .int .i64 (refA 32 false s.data.toList at_).2.2]) ∧ w = w' := by
  have hsz : (s.data.toList.length : Int) = s.size := rfl
  have HS := Lib.hid hs
  by_cases hout : at_ < 0 ∨ (s.size : Int) < at_
  · have HA := Lib.hid (show refA 32 false s.data.toList at_ = (0, 0, 1) by unfold refA; rw [if_pos (by rw [hsz]; exact hout)])
    clear hs hsz
    by_cases h1 : at_ < 0
    · clear hout
      go_enter Try.func28, Try.ntmps28
      go_wp2_with fail
      go_ret3
      refine ⟨?_, rfl⟩
      rw [HA.out]
      rfl
    · have h2 : (s.size : Int) < at_ := by omega
      clear hout
      go_enter Try.func28, Try.ntmps28
      go_wp2_with fail
      go_ret3
      refine ⟨?_, rfl⟩
      rw [HA.out]
      rfl
  · have h0 : 0 ≤ at_ := by omega
    have h1 : at_ ≤ s.size := by omega
    have o1 : decide (at_ < 0) = false := decide_eq_false (by omega)
    have o2 : decide ((s.size : Int) < at_) = false := decide_eq_false (by omega)
    have HC := Lib.hid (show ¬ (at_ < 0 ∨ (s.data.toList.length : Int) < at_) by rw [hsz]; exact hout)
    clear hout hs hsz
    cases hsc : scan 5 (s.data.toList.drop at_.toNat) with
    | none =>
      have HA := Lib.hid (show refA 32 false s.data.toList at_ = (0, 0, 2) by unfold refA; rw [if_neg HC.out]; simp [hsc])
      have HK := Lib.hid (show sizeA 5 (s.data.toList.drop at_.toNat) = 0 by unfold sizeA; rw [hsc])
      clear hsc
      go_enter Try.func28, Try.ntmps28
      go_wp2_with fail
      refine (size_at s at_ 5 _ HS.out h0 h1 (by decide) (by decide) 0 HK.out).mono ?_
      rintro e w1 ⟨rfl, rfl⟩
      go_wp2_with fail
      go_ret3
      refine ⟨?_, rfl⟩
      rw [HA.out]
      rfl
    | some ds =>
      obtain ⟨hl1, hl2, hl3⟩ := scan_len hsc
      have hb : at_ + ds.length ≤ s.size := by
        have e : (s.data.toList.drop at_.toNat).length = s.size - at_.toNat := by rw [List.length_drop]; rfl
        omega
      have hm : (s.size : Int) ≤ 9223372036854775807 := by have := HS.out; unfold maxLen at this; omega
      obtain ⟨ini, last, rest, hds, _, hlast, _, _⟩ := scan_some hsc
      have HDS := Lib.hid hds
      have hdl : ds.length = ini.length + 1 := by rw [hds]; simp
      have HDL := Lib.hid hdl
      have HR := Lib.hid (show refA 32 false s.data.toList at_ = if roomB 32 false ds then (zOf false ds % 2 ^ 32, at_ + ds.length, 0) else (0, 0, 2) by
        unfold refA; rw [if_neg HC.out]; simp only [hsc])
      have HK := Lib.hid (show sizeA 5 (s.data.toList.drop at_.toNat) = ds.length by unfold sizeA; rw [hsc])
      have H := Lib.hid hsc
      clear hsc hds hdl hl3
      obtain ⟨L, hL⟩ : ∃ L, zb (zOf false ds) (7 * (ds.length : Int) - 1).toNat = L := ⟨_, rfl⟩
      have HL := Lib.hid hL
      have HBY := Lib.hid (fun i (hi : 7 * ds.length ≤ i) => (show zb (zOf false ds) i = 0 by
        have h2 := zOf_beyond false ini last hlast i (by have := HDL.out; omega)
        rw [← HDS.out] at h2
        rw [h2]
        simp))
      have hL01 : L = 0 ∨ L = 1 := by rw [← hL]; exact zb_01 _ _
      clear hL
      have hnz : ((ds.length : Int) == 0) = false := by rw [beq_eq_false_iff_ne]; omega
      have hl0 : (0 : Int) ≤ 7 * (ds.length : Int) - 1 := by omega
      go_enter Try.func28, Try.ntmps28
      go_wp2_with fail
      refine (size_at s at_ 5 _ HS.out h0 h1 (by decide) (by decide) ds.length HK.out).mono ?_
      rintro e w1 ⟨rfl, rfl⟩
      go_wp2_with fail
      refine (bit_at s at_ _ _ HS.out h0 h1 ?c1 false ds 5 (by decide) H.out ?c2).mono ?_
      case c1 => exact hl0
      case c2 => omega
      rintro e w1 ⟨rfl, rfl⟩
      rw [HL.out]
      go_wp2_with fail
      go_loop [12, 14] (fun n i => ∃ j : Nat, j ≤ 32 ∧ i = .int .i64 j ∧ n = .int .u64 (zOf false ds % 2 ^ j)) (fun _ i => 32 - (intOf i).toNat)
      case atStart => exact ⟨0, by omega, rfl, by simp⟩
      case round =>
        obtain ⟨j, hj, rfl, rfl⟩ := hrel
        by_cases hlt : j < 32
        · by_cases hin : j < 7 * ds.length
          · have hin' : (j : Int) < 7 * (ds.length : Int) := by omega
            have hin2 : decide (7 * (ds.length : Int) ≤ (j : Int)) = false := decide_eq_false (by omega)
            rcases zb_01 (zOf false ds) j with hz | hz
            · have HZ := Lib.hid hz
              have HN := Lib.hid (no_bit (zOf false ds) j hz)
              clear hz hin
              go_wp2_with fail
              refine (bit_at s at_ _ _ HS.out h0 h1 ?d1 false ds 5 (by decide) H.out ?d2).mono ?_
              case d1 => omega
              case d2 => exact hin'
              rintro e w1 ⟨rfl, rfl⟩
              rw [Int.toNat_natCast, HZ.out]
              go_wp2_with fail
              exact ⟨⟨j + 1, by omega, by go_num, by rw [HN.out]⟩, by simp [intOf]; omega⟩
            · have HZ := Lib.hid hz
              have HN := Lib.hid (or_bit (zOf false ds) j (by omega) hz)
              clear hz hin
              go_wp2_with fail
              refine (bit_at s at_ _ _ HS.out h0 h1 ?e1 false ds 5 (by decide) H.out ?e2).mono ?_
              case e1 => omega
              case e2 => exact hin'
              rintro e w1 ⟨rfl, rfl⟩
              rw [Int.toNat_natCast, HZ.out]
              go_wp2_with fail
              exact ⟨⟨j + 1, by omega, by go_num, by rw [HN.out]⟩, by simp [intOf]; omega⟩
          · have hin' : 7 * (ds.length : Int) ≤ (j : Int) := by omega
            have hin2 : decide ((j : Int) < 7 * (ds.length : Int)) = false := decide_eq_false (by omega)
            have hz := HBY.out j (by omega)
            have HN := Lib.hid (no_bit (zOf false ds) j hz)
            clear hz hin
            go_wp2_with fail
            exact ⟨⟨j + 1, by omega, by go_num, by rw [HN.out]⟩, by simp [intOf]; omega⟩
        · obtain rfl : j = 32 := by omega
          have HT := Lib.hid (top_bit (zOf false ds) 31 (by decide))
          generalize hN : zOf false ds % 2 ^ 32 = N
          have HN := Lib.hid hN
          have hN0 : 0 ≤ N := by rw [← hN]; exact Int.emod_nonneg _ (by decide)
          have ht : bits .and .u64 (N / 2147483648) 1 = zb (zOf false ds) 31 := by rw [← hN]; exact HT.out
          clear hN hlt hj
          go_wp2_with fail
          go_loop [15] (fun i => ∃ j : Nat, i = .int .i64 (32 + (j : Int)) ∧ (32 + j ≤ 7 * ds.length ∨ j = 0) ∧ ∀ i', 32 ≤ i' → i' < 32 + j → zb (zOf false ds) i' = if false = true then zb (zOf false ds) (32 - 1) else 0) (fun i => 200 - (intOf i).toNat)
          case atStart => exact ⟨0, rfl, .inr rfl, fun i' h1 h2 => by omega⟩
          case round =>
            obtain ⟨j, rfl, hj, hall⟩ := hrel
            have HALL := Lib.hid hall
            clear hall
            by_cases hin : 32 + j < 7 * ds.length
            · have hin' : (32 : Int) + (j : Int) < 7 * (ds.length : Int) := by omega
              have HE := Lib.hid (show ((32 : Int) + (j : Int)).toNat = 32 + j by omega)
              have HAV := Lib.hid ht
              clear ht hj
              rcases zb_01 (zOf false ds) (32 + j) with hz | hz
              · have HZ := Lib.hid hz
                clear hz hin
                go_wp2_with fail
                refine (bit_at s at_ _ _ HS.out h0 h1 ?x1 false ds 5 (by decide) H.out ?x2).mono ?_
                case x1 => omega
                case x2 => exact hin'
                rintro e w1 ⟨rfl, rfl⟩
                rw [HE.out, HZ.out]
                go_wp2_with fail
                go_round
                case rel =>
                  refine ⟨j + 1, congrArg (Value.int .i64) (by omega), .inl (by omega), fun i' hi1 hi2 => ?_⟩
                  by_cases hi3 : i' < 32 + j
                  · exact HALL.out i' hi1 hi3
                  · obtain rfl : i' = 32 + j := by omega
                    rw [HZ.out]
                    simp
                case measure => simp [intOf]; omega
              · have HZ := Lib.hid hz
                clear hz hin
                have HQ := Lib.hid (show ¬ roomB 32 false ds = true by
                  intro hq
                  rw [roomB_iff] at hq
                  have h3 := bits_room false ds 32 (by decide) hq (32 + j) (by omega)
                  rw [HZ.out] at h3
                  simp at h3)
                go_wp2_with fail
                refine (bit_at s at_ _ _ HS.out h0 h1 ?y1 false ds 5 (by decide) H.out ?y2).mono ?_
                case y1 => omega
                case y2 => exact hin'
                rintro e w1 ⟨rfl, rfl⟩
                rw [HE.out, HZ.out]
                go_wp2_with fail
                go_ret3
                refine ⟨?_, rfl⟩
                rw [HR.out, if_neg HQ.out]
                rfl
            · have hin' : decide ((32 : Int) + (j : Int) < 7 * (ds.length : Int)) = false := decide_eq_false (by omega)
              have HQ := Lib.hid (show roomB 32 false ds = true by
                rw [roomB_iff]
                have h3 := room_bits false ini last hlast 32 (by decide) (fun i hi1 hi2 => by
                  rw [← HDS.out]
                  exact HALL.out i hi1 (by have := HDL.out; omega))
                rw [← HDS.out] at h3
                exact h3)
              clear hin hj
              go_wp2_with fail
              go_ret3
              refine ⟨?_, rfl⟩
              rw [HR.out, if_pos HQ.out, HN.out]
              exact ret3 rfl (by first | rfl | omega) rfl

set_option maxRecDepth 100000 in
set_option maxHeartbeats 2000000 in
theorem refTake_s32 (s : ByteArray) (at_ : Int) (w : World) (hs : s.size ≤ maxLen) :
    Calls Try.prog 28 #[.string s, .int .i64 at_, .int .i64 32, .bool true] w fun e w' =>
      e = .returned (.tuple #[.int .u64 (refA 32 true s.data.toList at_).1, .int .i64 (refA 32 true s.data.toList at_).2.1, .int .i64 (refA 32 true s.data.toList at_).2.2]) ∧ w = w' := by
  have hsz : (s.data.toList.length : Int) = s.size := rfl
  have HS := Lib.hid hs
  by_cases hout : at_ < 0 ∨ (s.size : Int) < at_
  · have HA := Lib.hid (show refA 32 true s.data.toList at_ = (0, 0, 1) by unfold refA; rw [if_pos (by rw [hsz]; exact hout)])
    clear hs hsz
    by_cases h1 : at_ < 0
    · clear hout
      go_enter Try.func28, Try.ntmps28
      go_wp2_with fail
      go_ret3
      refine ⟨?_, rfl⟩
      rw [HA.out]
      rfl
    · have h2 : (s.size : Int) < at_ := by omega
      clear hout
      go_enter Try.func28, Try.ntmps28
      go_wp2_with fail
      go_ret3
      refine ⟨?_, rfl⟩
      rw [HA.out]
      rfl
  · have h0 : 0 ≤ at_ := by omega
    have h1 : at_ ≤ s.size := by omega
    have o1 : decide (at_ < 0) = false := decide_eq_false (by omega)
    have o2 : decide ((s.size : Int) < at_) = false := decide_eq_false (by omega)
    have HC := Lib.hid (show ¬ (at_ < 0 ∨ (s.data.toList.length : Int) < at_) by rw [hsz]; exact hout)
    clear hout hs hsz
    cases hsc : scan 5 (s.data.toList.drop at_.toNat) with
    | none =>
      have HA := Lib.hid (show refA 32 true s.data.toList at_ = (0, 0, 2) by unfold refA; rw [if_neg HC.out]; simp [hsc])
      have HK := Lib.hid (show sizeA 5 (s.data.toList.drop at_.toNat) = 0 by unfold sizeA; rw [hsc])
      clear hsc
      go_enter Try.func28, Try.ntmps28
      go_wp2_with fail
      refine (size_at s at_ 5 _ HS.out h0 h1 (by decide) (by decide) 0 HK.out).mono ?_
      rintro e w1 ⟨rfl, rfl⟩
      go_wp2_with fail
      go_ret3
      refine ⟨?_, rfl⟩
      rw [HA.out]
      rfl
    | some ds =>
      obtain ⟨hl1, hl2, hl3⟩ := scan_len hsc
      have hb : at_ + ds.length ≤ s.size := by
        have e : (s.data.toList.drop at_.toNat).length = s.size - at_.toNat := by rw [List.length_drop]; rfl
        omega
      have hm : (s.size : Int) ≤ 9223372036854775807 := by have := HS.out; unfold maxLen at this; omega
      obtain ⟨ini, last, rest, hds, _, hlast, _, _⟩ := scan_some hsc
      have HDS := Lib.hid hds
      have hdl : ds.length = ini.length + 1 := by rw [hds]; simp
      have HDL := Lib.hid hdl
      have HR := Lib.hid (show refA 32 true s.data.toList at_ = if roomB 32 true ds then (zOf true ds % 2 ^ 32, at_ + ds.length, 0) else (0, 0, 2) by
        unfold refA; rw [if_neg HC.out]; simp only [hsc])
      have HK := Lib.hid (show sizeA 5 (s.data.toList.drop at_.toNat) = ds.length by unfold sizeA; rw [hsc])
      have H := Lib.hid hsc
      clear hsc hds hdl hl3
      obtain ⟨L, hL⟩ : ∃ L, zb (zOf true ds) (7 * (ds.length : Int) - 1).toNat = L := ⟨_, rfl⟩
      have HL := Lib.hid hL
      have HBY := Lib.hid (fun i (hi : 7 * ds.length ≤ i) => (show zb (zOf true ds) i = L by
        have h2 := zOf_beyond true ini last hlast i (by have := HDL.out; omega)
        rw [← HDS.out] at h2
        rw [h2, ← hL]
        have h3 := zOf_bit true ds (7 * (ds.length : Int) - 1).toNat (by omega)
        have h4 : (7 * (ds.length : Int) - 1).toNat / 7 = ini.length := by have := HDL.out; omega
        have h5 : (7 * (ds.length : Int) - 1).toNat % 7 = 6 := by omega
        rw [← h3]
        have h6 : ds[(7 * (ds.length : Int) - 1).toNat / 7]'(by omega) = last := by
          have e := HDS.out
          subst e
          simp only [h4]
          simp
        rw [h6, h5]
        simp only [true_and]
        split <;> omega))
      have hL01 : L = 0 ∨ L = 1 := by rw [← hL]; exact zb_01 _ _
      clear hL
      have hnz : ((ds.length : Int) == 0) = false := by rw [beq_eq_false_iff_ne]; omega
      have hl0 : (0 : Int) ≤ 7 * (ds.length : Int) - 1 := by omega
      go_enter Try.func28, Try.ntmps28
      go_wp2_with fail
      refine (size_at s at_ 5 _ HS.out h0 h1 (by decide) (by decide) ds.length HK.out).mono ?_
      rintro e w1 ⟨rfl, rfl⟩
      go_wp2_with fail
      refine (bit_at s at_ _ _ HS.out h0 h1 ?c1 true ds 5 (by decide) H.out ?c2).mono ?_
      case c1 => exact hl0
      case c2 => omega
      rintro e w1 ⟨rfl, rfl⟩
      rw [HL.out]
      go_wp2_with fail
      go_loop [12, 14] (fun n i => ∃ j : Nat, j ≤ 32 ∧ i = .int .i64 j ∧ n = .int .u64 (zOf true ds % 2 ^ j)) (fun _ i => 32 - (intOf i).toNat)
      case atStart => exact ⟨0, by omega, rfl, by simp⟩
      case round =>
        obtain ⟨j, hj, rfl, rfl⟩ := hrel
        by_cases hlt : j < 32
        · by_cases hin : j < 7 * ds.length
          · have hin' : (j : Int) < 7 * (ds.length : Int) := by omega
            have hin2 : decide (7 * (ds.length : Int) ≤ (j : Int)) = false := decide_eq_false (by omega)
            rcases zb_01 (zOf true ds) j with hz | hz
            · have HZ := Lib.hid hz
              have HN := Lib.hid (no_bit (zOf true ds) j hz)
              clear hz hin
              go_wp2_with fail
              refine (bit_at s at_ _ _ HS.out h0 h1 ?d1 true ds 5 (by decide) H.out ?d2).mono ?_
              case d1 => omega
              case d2 => exact hin'
              rintro e w1 ⟨rfl, rfl⟩
              rw [Int.toNat_natCast, HZ.out]
              go_wp2_with fail
              exact ⟨⟨j + 1, by omega, by go_num, by rw [HN.out]⟩, by simp [intOf]; omega⟩
            · have HZ := Lib.hid hz
              have HN := Lib.hid (or_bit (zOf true ds) j (by omega) hz)
              clear hz hin
              go_wp2_with fail
              refine (bit_at s at_ _ _ HS.out h0 h1 ?e1 true ds 5 (by decide) H.out ?e2).mono ?_
              case e1 => omega
              case e2 => exact hin'
              rintro e w1 ⟨rfl, rfl⟩
              rw [Int.toNat_natCast, HZ.out]
              go_wp2_with fail
              exact ⟨⟨j + 1, by omega, by go_num, by rw [HN.out]⟩, by simp [intOf]; omega⟩
          · have hin' : 7 * (ds.length : Int) ≤ (j : Int) := by omega
            have hin2 : decide ((j : Int) < 7 * (ds.length : Int)) = false := decide_eq_false (by omega)
            have hz := HBY.out j (by omega)
            rcases hL01 with rfl | rfl
            · have HN := Lib.hid (no_bit (zOf true ds) j hz)
              clear hz hin
              go_wp2_with fail
              exact ⟨⟨j + 1, by omega, by go_num, by rw [HN.out]⟩, by simp [intOf]; omega⟩
            · have HN := Lib.hid (or_bit (zOf true ds) j (by omega) hz)
              clear hz hin
              go_wp2_with fail
              exact ⟨⟨j + 1, by omega, by go_num, by rw [HN.out]⟩, by simp [intOf]; omega⟩
        · obtain rfl : j = 32 := by omega
          have HT := Lib.hid (top_bit (zOf true ds) 31 (by decide))
          generalize hN : zOf true ds % 2 ^ 32 = N
          have HN := Lib.hid hN
          have hN0 : 0 ≤ N := by rw [← hN]; exact Int.emod_nonneg _ (by decide)
          have ht : bits .and .u64 (N / 2147483648) 1 = zb (zOf true ds) 31 := by rw [← hN]; exact HT.out
          clear hN hlt hj
          go_wp2_with fail
          go_loop [15] (fun i => ∃ j : Nat, i = .int .i64 (32 + (j : Int)) ∧ (32 + j ≤ 7 * ds.length ∨ j = 0) ∧ ∀ i', 32 ≤ i' → i' < 32 + j → zb (zOf true ds) i' = if true = true then zb (zOf true ds) (32 - 1) else 0) (fun i => 200 - (intOf i).toNat)
          case atStart => exact ⟨0, rfl, .inr rfl, fun i' h1 h2 => by omega⟩
          case round =>
            obtain ⟨j, rfl, hj, hall⟩ := hrel
            have HALL := Lib.hid hall
            clear hall
            by_cases hin : 32 + j < 7 * ds.length
            · have hin' : (32 : Int) + (j : Int) < 7 * (ds.length : Int) := by omega
              have HE := Lib.hid (show ((32 : Int) + (j : Int)).toNat = 32 + j by omega)
              have HAV := Lib.hid ht
              clear ht hj
              rcases zb_01 (zOf true ds) 31 with hc | hc
              · have ht : bits .and .u64 (N / 2147483648) 1 = 0 := by rw [HAV.out, hc]
                have HCC := Lib.hid hc
                clear hc
                rcases zb_01 (zOf true ds) (32 + j) with hz | hz
                · have HZ := Lib.hid hz
                  clear hz hin
                  go_wp2_with fail
                  refine (bit_at s at_ _ _ HS.out h0 h1 ?x1 true ds 5 (by decide) H.out ?x2).mono ?_
                  case x1 => omega
                  case x2 => exact hin'
                  rintro e w1 ⟨rfl, rfl⟩
                  rw [HE.out, HZ.out]
                  go_wp2_with fail
                  go_round
                  case rel =>
                    refine ⟨j + 1, congrArg (Value.int .i64) (by omega), .inl (by omega), fun i' hi1 hi2 => ?_⟩
                    by_cases hi3 : i' < 32 + j
                    · exact HALL.out i' hi1 hi3
                    · obtain rfl : i' = 32 + j := by omega
                      rw [HZ.out]
                      exact HCC.out.symm
                  case measure => simp [intOf]; omega
                · have HZ := Lib.hid hz
                  clear hz hin
                  have HQ := Lib.hid (show ¬ roomB 32 true ds = true by
                    intro hq
                    rw [roomB_iff] at hq
                    have h3 := bits_room true ds 32 (by decide) hq (32 + j) (by omega)
                    rw [HZ.out] at h3
                    have h4 := HCC.out
                    simp only [if_true, show 32 - 1 = 31 from rfl] at h3
                    rw [h4] at h3
                    omega)
                  go_wp2_with fail
                  refine (bit_at s at_ _ _ HS.out h0 h1 ?y1 true ds 5 (by decide) H.out ?y2).mono ?_
                  case y1 => omega
                  case y2 => exact hin'
                  rintro e w1 ⟨rfl, rfl⟩
                  rw [HE.out, HZ.out]
                  go_wp2_with fail
                  go_ret3
                  refine ⟨?_, rfl⟩
                  rw [HR.out, if_neg HQ.out]
                  rfl
              · have ht : bits .and .u64 (N / 2147483648) 1 = 1 := by rw [HAV.out, hc]
                have HCC := Lib.hid hc
                clear hc
                rcases zb_01 (zOf true ds) (32 + j) with hz | hz
                · have HZ := Lib.hid hz
                  clear hz hin
                  have HQ := Lib.hid (show ¬ roomB 32 true ds = true by
                    intro hq
                    rw [roomB_iff] at hq
                    have h3 := bits_room true ds 32 (by decide) hq (32 + j) (by omega)
                    rw [HZ.out] at h3
                    have h4 := HCC.out
                    simp only [if_true, show 32 - 1 = 31 from rfl] at h3
                    rw [h4] at h3
                    omega)
                  go_wp2_with fail
                  refine (bit_at s at_ _ _ HS.out h0 h1 ?u1 true ds 5 (by decide) H.out ?u2).mono ?_
                  case u1 => omega
                  case u2 => exact hin'
                  rintro e w1 ⟨rfl, rfl⟩
                  rw [HE.out, HZ.out]
                  go_wp2_with fail
                  go_ret3
                  refine ⟨?_, rfl⟩
                  rw [HR.out, if_neg HQ.out]
                  rfl
                · have HZ := Lib.hid hz
                  clear hz hin
                  go_wp2_with fail
                  refine (bit_at s at_ _ _ HS.out h0 h1 ?v1 true ds 5 (by decide) H.out ?v2).mono ?_
                  case v1 => omega
                  case v2 => exact hin'
                  rintro e w1 ⟨rfl, rfl⟩
                  rw [HE.out, HZ.out]
                  go_wp2_with fail
                  go_round
                  case rel =>
                    refine ⟨j + 1, congrArg (Value.int .i64) (by omega), .inl (by omega), fun i' hi1 hi2 => ?_⟩
                    by_cases hi3 : i' < 32 + j
                    · exact HALL.out i' hi1 hi3
                    · obtain rfl : i' = 32 + j := by omega
                      rw [HZ.out]
                      exact HCC.out.symm
                  case measure => simp [intOf]; omega
            · have hin' : decide ((32 : Int) + (j : Int) < 7 * (ds.length : Int)) = false := decide_eq_false (by omega)
              have HQ := Lib.hid (show roomB 32 true ds = true by
                rw [roomB_iff]
                have h3 := room_bits true ini last hlast 32 (by decide) (fun i hi1 hi2 => by
                  rw [← HDS.out]
                  exact HALL.out i hi1 (by have := HDL.out; omega))
                rw [← HDS.out] at h3
                exact h3)
              clear hin hj
              go_wp2_with fail
              go_ret3
              refine ⟨?_, rfl⟩
              rw [HR.out, if_pos HQ.out, HN.out]
              exact ret3 rfl (by first | rfl | omega) rfl

set_option maxRecDepth 100000 in
set_option maxHeartbeats 2000000 in
theorem refTake_u64 (s : ByteArray) (at_ : Int) (w : World) (hs : s.size ≤ maxLen) :
    Calls Try.prog 28 #[.string s, .int .i64 at_, .int .i64 64, .bool false] w fun e w' =>
      e = .returned (.tuple #[.int .u64 (refA 64 false s.data.toList at_).1, .int .i64 (refA 64 false s.data.toList at_).2.1, .int .i64 (refA 64 false s.data.toList at_).2.2]) ∧ w = w' := by
  have hsz : (s.data.toList.length : Int) = s.size := rfl
  have HS := Lib.hid hs
  by_cases hout : at_ < 0 ∨ (s.size : Int) < at_
  · have HA := Lib.hid (show refA 64 false s.data.toList at_ = (0, 0, 1) by unfold refA; rw [if_pos (by rw [hsz]; exact hout)])
    clear hs hsz
    by_cases h1 : at_ < 0
    · clear hout
      go_enter Try.func28, Try.ntmps28
      go_wp2_with fail
      go_ret3
      refine ⟨?_, rfl⟩
      rw [HA.out]
      rfl
    · have h2 : (s.size : Int) < at_ := by omega
      clear hout
      go_enter Try.func28, Try.ntmps28
      go_wp2_with fail
      go_ret3
      refine ⟨?_, rfl⟩
      rw [HA.out]
      rfl
  · have h0 : 0 ≤ at_ := by omega
    have h1 : at_ ≤ s.size := by omega
    have o1 : decide (at_ < 0) = false := decide_eq_false (by omega)
    have o2 : decide ((s.size : Int) < at_) = false := decide_eq_false (by omega)
    have HC := Lib.hid (show ¬ (at_ < 0 ∨ (s.data.toList.length : Int) < at_) by rw [hsz]; exact hout)
    clear hout hs hsz
    cases hsc : scan 10 (s.data.toList.drop at_.toNat) with
    | none =>
      have HA := Lib.hid (show refA 64 false s.data.toList at_ = (0, 0, 2) by unfold refA; rw [if_neg HC.out]; simp [hsc])
      have HK := Lib.hid (show sizeA 10 (s.data.toList.drop at_.toNat) = 0 by unfold sizeA; rw [hsc])
      clear hsc
      go_enter Try.func28, Try.ntmps28
      go_wp2_with fail
      refine (size_at s at_ 10 _ HS.out h0 h1 (by decide) (by decide) 0 HK.out).mono ?_
      rintro e w1 ⟨rfl, rfl⟩
      go_wp2_with fail
      go_ret3
      refine ⟨?_, rfl⟩
      rw [HA.out]
      rfl
    | some ds =>
      obtain ⟨hl1, hl2, hl3⟩ := scan_len hsc
      have hb : at_ + ds.length ≤ s.size := by
        have e : (s.data.toList.drop at_.toNat).length = s.size - at_.toNat := by rw [List.length_drop]; rfl
        omega
      have hm : (s.size : Int) ≤ 9223372036854775807 := by have := HS.out; unfold maxLen at this; omega
      obtain ⟨ini, last, rest, hds, _, hlast, _, _⟩ := scan_some hsc
      have HDS := Lib.hid hds
      have hdl : ds.length = ini.length + 1 := by rw [hds]; simp
      have HDL := Lib.hid hdl
      have HR := Lib.hid (show refA 64 false s.data.toList at_ = if roomB 64 false ds then (zOf false ds % 2 ^ 64, at_ + ds.length, 0) else (0, 0, 2) by
        unfold refA; rw [if_neg HC.out]; simp only [hsc])
      have HK := Lib.hid (show sizeA 10 (s.data.toList.drop at_.toNat) = ds.length by unfold sizeA; rw [hsc])
      have H := Lib.hid hsc
      clear hsc hds hdl hl3
      obtain ⟨L, hL⟩ : ∃ L, zb (zOf false ds) (7 * (ds.length : Int) - 1).toNat = L := ⟨_, rfl⟩
      have HL := Lib.hid hL
      have HBY := Lib.hid (fun i (hi : 7 * ds.length ≤ i) => (show zb (zOf false ds) i = 0 by
        have h2 := zOf_beyond false ini last hlast i (by have := HDL.out; omega)
        rw [← HDS.out] at h2
        rw [h2]
        simp))
      have hL01 : L = 0 ∨ L = 1 := by rw [← hL]; exact zb_01 _ _
      clear hL
      have hnz : ((ds.length : Int) == 0) = false := by rw [beq_eq_false_iff_ne]; omega
      have hl0 : (0 : Int) ≤ 7 * (ds.length : Int) - 1 := by omega
      go_enter Try.func28, Try.ntmps28
      go_wp2_with fail
      refine (size_at s at_ 10 _ HS.out h0 h1 (by decide) (by decide) ds.length HK.out).mono ?_
      rintro e w1 ⟨rfl, rfl⟩
      go_wp2_with fail
      refine (bit_at s at_ _ _ HS.out h0 h1 ?c1 false ds 10 (by decide) H.out ?c2).mono ?_
      case c1 => exact hl0
      case c2 => omega
      rintro e w1 ⟨rfl, rfl⟩
      rw [HL.out]
      go_wp2_with fail
      go_loop [12, 14] (fun n i => ∃ j : Nat, j ≤ 64 ∧ i = .int .i64 j ∧ n = .int .u64 (zOf false ds % 2 ^ j)) (fun _ i => 64 - (intOf i).toNat)
      case atStart => exact ⟨0, by omega, rfl, by simp⟩
      case round =>
        obtain ⟨j, hj, rfl, rfl⟩ := hrel
        by_cases hlt : j < 64
        · by_cases hin : j < 7 * ds.length
          · have hin' : (j : Int) < 7 * (ds.length : Int) := by omega
            have hin2 : decide (7 * (ds.length : Int) ≤ (j : Int)) = false := decide_eq_false (by omega)
            rcases zb_01 (zOf false ds) j with hz | hz
            · have HZ := Lib.hid hz
              have HN := Lib.hid (no_bit (zOf false ds) j hz)
              clear hz hin
              go_wp2_with fail
              refine (bit_at s at_ _ _ HS.out h0 h1 ?d1 false ds 10 (by decide) H.out ?d2).mono ?_
              case d1 => omega
              case d2 => exact hin'
              rintro e w1 ⟨rfl, rfl⟩
              rw [Int.toNat_natCast, HZ.out]
              go_wp2_with fail
              exact ⟨⟨j + 1, by omega, by go_num, by rw [HN.out]⟩, by simp [intOf]; omega⟩
            · have HZ := Lib.hid hz
              have HN := Lib.hid (or_bit (zOf false ds) j (by omega) hz)
              clear hz hin
              go_wp2_with fail
              refine (bit_at s at_ _ _ HS.out h0 h1 ?e1 false ds 10 (by decide) H.out ?e2).mono ?_
              case e1 => omega
              case e2 => exact hin'
              rintro e w1 ⟨rfl, rfl⟩
              rw [Int.toNat_natCast, HZ.out]
              go_wp2_with fail
              exact ⟨⟨j + 1, by omega, by go_num, by rw [HN.out]⟩, by simp [intOf]; omega⟩
          · have hin' : 7 * (ds.length : Int) ≤ (j : Int) := by omega
            have hin2 : decide ((j : Int) < 7 * (ds.length : Int)) = false := decide_eq_false (by omega)
            have hz := HBY.out j (by omega)
            have HN := Lib.hid (no_bit (zOf false ds) j hz)
            clear hz hin
            go_wp2_with fail
            exact ⟨⟨j + 1, by omega, by go_num, by rw [HN.out]⟩, by simp [intOf]; omega⟩
        · obtain rfl : j = 64 := by omega
          have HT := Lib.hid (top_bit (zOf false ds) 63 (by decide))
          generalize hN : zOf false ds % 2 ^ 64 = N
          have HN := Lib.hid hN
          have hN0 : 0 ≤ N := by rw [← hN]; exact Int.emod_nonneg _ (by decide)
          have ht : bits .and .u64 (N / 9223372036854775808) 1 = zb (zOf false ds) 63 := by rw [← hN]; exact HT.out
          clear hN hlt hj
          go_wp2_with fail
          go_loop [15] (fun i => ∃ j : Nat, i = .int .i64 (64 + (j : Int)) ∧ (64 + j ≤ 7 * ds.length ∨ j = 0) ∧ ∀ i', 64 ≤ i' → i' < 64 + j → zb (zOf false ds) i' = if false = true then zb (zOf false ds) (64 - 1) else 0) (fun i => 200 - (intOf i).toNat)
          case atStart => exact ⟨0, rfl, .inr rfl, fun i' h1 h2 => by omega⟩
          case round =>
            obtain ⟨j, rfl, hj, hall⟩ := hrel
            have HALL := Lib.hid hall
            clear hall
            by_cases hin : 64 + j < 7 * ds.length
            · have hin' : (64 : Int) + (j : Int) < 7 * (ds.length : Int) := by omega
              have HE := Lib.hid (show ((64 : Int) + (j : Int)).toNat = 64 + j by omega)
              have HAV := Lib.hid ht
              clear ht hj
              rcases zb_01 (zOf false ds) (64 + j) with hz | hz
              · have HZ := Lib.hid hz
                clear hz hin
                go_wp2_with fail
                refine (bit_at s at_ _ _ HS.out h0 h1 ?x1 false ds 10 (by decide) H.out ?x2).mono ?_
                case x1 => omega
                case x2 => exact hin'
                rintro e w1 ⟨rfl, rfl⟩
                rw [HE.out, HZ.out]
                go_wp2_with fail
                go_round
                case rel =>
                  refine ⟨j + 1, congrArg (Value.int .i64) (by omega), .inl (by omega), fun i' hi1 hi2 => ?_⟩
                  by_cases hi3 : i' < 64 + j
                  · exact HALL.out i' hi1 hi3
                  · obtain rfl : i' = 64 + j := by omega
                    rw [HZ.out]
                    simp
                case measure => simp [intOf]; omega
              · have HZ := Lib.hid hz
                clear hz hin
                have HQ := Lib.hid (show ¬ roomB 64 false ds = true by
                  intro hq
                  rw [roomB_iff] at hq
                  have h3 := bits_room false ds 64 (by decide) hq (64 + j) (by omega)
                  rw [HZ.out] at h3
                  simp at h3)
                go_wp2_with fail
                refine (bit_at s at_ _ _ HS.out h0 h1 ?y1 false ds 10 (by decide) H.out ?y2).mono ?_
                case y1 => omega
                case y2 => exact hin'
                rintro e w1 ⟨rfl, rfl⟩
                rw [HE.out, HZ.out]
                go_wp2_with fail
                go_ret3
                refine ⟨?_, rfl⟩
                rw [HR.out, if_neg HQ.out]
                rfl
            · have hin' : decide ((64 : Int) + (j : Int) < 7 * (ds.length : Int)) = false := decide_eq_false (by omega)
              have HQ := Lib.hid (show roomB 64 false ds = true by
                rw [roomB_iff]
                have h3 := room_bits false ini last hlast 64 (by decide) (fun i hi1 hi2 => by
                  rw [← HDS.out]
                  exact HALL.out i hi1 (by have := HDL.out; omega))
                rw [← HDS.out] at h3
                exact h3)
              clear hin hj
              go_wp2_with fail
              go_ret3
              refine ⟨?_, rfl⟩
              rw [HR.out, if_pos HQ.out, HN.out]
              exact ret3 rfl (by first | rfl | omega) rfl

set_option maxRecDepth 100000 in
set_option maxHeartbeats 2000000 in
theorem refTake_s64 (s : ByteArray) (at_ : Int) (w : World) (hs : s.size ≤ maxLen) :
    Calls Try.prog 28 #[.string s, .int .i64 at_, .int .i64 64, .bool true] w fun e w' =>
      e = .returned (.tuple #[.int .u64 (refA 64 true s.data.toList at_).1, .int .i64 (refA 64 true s.data.toList at_).2.1, .int .i64 (refA 64 true s.data.toList at_).2.2]) ∧ w = w' := by
  have hsz : (s.data.toList.length : Int) = s.size := rfl
  have HS := Lib.hid hs
  by_cases hout : at_ < 0 ∨ (s.size : Int) < at_
  · have HA := Lib.hid (show refA 64 true s.data.toList at_ = (0, 0, 1) by unfold refA; rw [if_pos (by rw [hsz]; exact hout)])
    clear hs hsz
    by_cases h1 : at_ < 0
    · clear hout
      go_enter Try.func28, Try.ntmps28
      go_wp2_with fail
      go_ret3
      refine ⟨?_, rfl⟩
      rw [HA.out]
      rfl
    · have h2 : (s.size : Int) < at_ := by omega
      clear hout
      go_enter Try.func28, Try.ntmps28
      go_wp2_with fail
      go_ret3
      refine ⟨?_, rfl⟩
      rw [HA.out]
      rfl
  · have h0 : 0 ≤ at_ := by omega
    have h1 : at_ ≤ s.size := by omega
    have o1 : decide (at_ < 0) = false := decide_eq_false (by omega)
    have o2 : decide ((s.size : Int) < at_) = false := decide_eq_false (by omega)
    have HC := Lib.hid (show ¬ (at_ < 0 ∨ (s.data.toList.length : Int) < at_) by rw [hsz]; exact hout)
    clear hout hs hsz
    cases hsc : scan 10 (s.data.toList.drop at_.toNat) with
    | none =>
      have HA := Lib.hid (show refA 64 true s.data.toList at_ = (0, 0, 2) by unfold refA; rw [if_neg HC.out]; simp [hsc])
      have HK := Lib.hid (show sizeA 10 (s.data.toList.drop at_.toNat) = 0 by unfold sizeA; rw [hsc])
      clear hsc
      go_enter Try.func28, Try.ntmps28
      go_wp2_with fail
      refine (size_at s at_ 10 _ HS.out h0 h1 (by decide) (by decide) 0 HK.out).mono ?_
      rintro e w1 ⟨rfl, rfl⟩
      go_wp2_with fail
      go_ret3
      refine ⟨?_, rfl⟩
      rw [HA.out]
      rfl
    | some ds =>
      obtain ⟨hl1, hl2, hl3⟩ := scan_len hsc
      have hb : at_ + ds.length ≤ s.size := by
        have e : (s.data.toList.drop at_.toNat).length = s.size - at_.toNat := by rw [List.length_drop]; rfl
        omega
      have hm : (s.size : Int) ≤ 9223372036854775807 := by have := HS.out; unfold maxLen at this; omega
      obtain ⟨ini, last, rest, hds, _, hlast, _, _⟩ := scan_some hsc
      have HDS := Lib.hid hds
      have hdl : ds.length = ini.length + 1 := by rw [hds]; simp
      have HDL := Lib.hid hdl
      have HR := Lib.hid (show refA 64 true s.data.toList at_ = if roomB 64 true ds then (zOf true ds % 2 ^ 64, at_ + ds.length, 0) else (0, 0, 2) by
        unfold refA; rw [if_neg HC.out]; simp only [hsc])
      have HK := Lib.hid (show sizeA 10 (s.data.toList.drop at_.toNat) = ds.length by unfold sizeA; rw [hsc])
      have H := Lib.hid hsc
      clear hsc hds hdl hl3
      obtain ⟨L, hL⟩ : ∃ L, zb (zOf true ds) (7 * (ds.length : Int) - 1).toNat = L := ⟨_, rfl⟩
      have HL := Lib.hid hL
      have HBY := Lib.hid (fun i (hi : 7 * ds.length ≤ i) => (show zb (zOf true ds) i = L by
        have h2 := zOf_beyond true ini last hlast i (by have := HDL.out; omega)
        rw [← HDS.out] at h2
        rw [h2, ← hL]
        have h3 := zOf_bit true ds (7 * (ds.length : Int) - 1).toNat (by omega)
        have h4 : (7 * (ds.length : Int) - 1).toNat / 7 = ini.length := by have := HDL.out; omega
        have h5 : (7 * (ds.length : Int) - 1).toNat % 7 = 6 := by omega
        rw [← h3]
        have h6 : ds[(7 * (ds.length : Int) - 1).toNat / 7]'(by omega) = last := by
          have e := HDS.out
          subst e
          simp only [h4]
          simp
        rw [h6, h5]
        simp only [true_and]
        split <;> omega))
      have hL01 : L = 0 ∨ L = 1 := by rw [← hL]; exact zb_01 _ _
      clear hL
      have hnz : ((ds.length : Int) == 0) = false := by rw [beq_eq_false_iff_ne]; omega
      have hl0 : (0 : Int) ≤ 7 * (ds.length : Int) - 1 := by omega
      go_enter Try.func28, Try.ntmps28
      go_wp2_with fail
      refine (size_at s at_ 10 _ HS.out h0 h1 (by decide) (by decide) ds.length HK.out).mono ?_
      rintro e w1 ⟨rfl, rfl⟩
      go_wp2_with fail
      refine (bit_at s at_ _ _ HS.out h0 h1 ?c1 true ds 10 (by decide) H.out ?c2).mono ?_
      case c1 => exact hl0
      case c2 => omega
      rintro e w1 ⟨rfl, rfl⟩
      rw [HL.out]
      go_wp2_with fail
      go_loop [12, 14] (fun n i => ∃ j : Nat, j ≤ 64 ∧ i = .int .i64 j ∧ n = .int .u64 (zOf true ds % 2 ^ j)) (fun _ i => 64 - (intOf i).toNat)
      case atStart => exact ⟨0, by omega, rfl, by simp⟩
      case round =>
        obtain ⟨j, hj, rfl, rfl⟩ := hrel
        by_cases hlt : j < 64
        · by_cases hin : j < 7 * ds.length
          · have hin' : (j : Int) < 7 * (ds.length : Int) := by omega
            have hin2 : decide (7 * (ds.length : Int) ≤ (j : Int)) = false := decide_eq_false (by omega)
            rcases zb_01 (zOf true ds) j with hz | hz
            · have HZ := Lib.hid hz
              have HN := Lib.hid (no_bit (zOf true ds) j hz)
              clear hz hin
              go_wp2_with fail
              refine (bit_at s at_ _ _ HS.out h0 h1 ?d1 true ds 10 (by decide) H.out ?d2).mono ?_
              case d1 => omega
              case d2 => exact hin'
              rintro e w1 ⟨rfl, rfl⟩
              rw [Int.toNat_natCast, HZ.out]
              go_wp2_with fail
              exact ⟨⟨j + 1, by omega, by go_num, by rw [HN.out]⟩, by simp [intOf]; omega⟩
            · have HZ := Lib.hid hz
              have HN := Lib.hid (or_bit (zOf true ds) j (by omega) hz)
              clear hz hin
              go_wp2_with fail
              refine (bit_at s at_ _ _ HS.out h0 h1 ?e1 true ds 10 (by decide) H.out ?e2).mono ?_
              case e1 => omega
              case e2 => exact hin'
              rintro e w1 ⟨rfl, rfl⟩
              rw [Int.toNat_natCast, HZ.out]
              go_wp2_with fail
              exact ⟨⟨j + 1, by omega, by go_num, by rw [HN.out]⟩, by simp [intOf]; omega⟩
          · have hin' : 7 * (ds.length : Int) ≤ (j : Int) := by omega
            have hin2 : decide ((j : Int) < 7 * (ds.length : Int)) = false := decide_eq_false (by omega)
            have hz := HBY.out j (by omega)
            rcases hL01 with rfl | rfl
            · have HN := Lib.hid (no_bit (zOf true ds) j hz)
              clear hz hin
              go_wp2_with fail
              exact ⟨⟨j + 1, by omega, by go_num, by rw [HN.out]⟩, by simp [intOf]; omega⟩
            · have HN := Lib.hid (or_bit (zOf true ds) j (by omega) hz)
              clear hz hin
              go_wp2_with fail
              exact ⟨⟨j + 1, by omega, by go_num, by rw [HN.out]⟩, by simp [intOf]; omega⟩
        · obtain rfl : j = 64 := by omega
          have HT := Lib.hid (top_bit (zOf true ds) 63 (by decide))
          generalize hN : zOf true ds % 2 ^ 64 = N
          have HN := Lib.hid hN
          have hN0 : 0 ≤ N := by rw [← hN]; exact Int.emod_nonneg _ (by decide)
          have ht : bits .and .u64 (N / 9223372036854775808) 1 = zb (zOf true ds) 63 := by rw [← hN]; exact HT.out
          clear hN hlt hj
          go_wp2_with fail
          go_loop [15] (fun i => ∃ j : Nat, i = .int .i64 (64 + (j : Int)) ∧ (64 + j ≤ 7 * ds.length ∨ j = 0) ∧ ∀ i', 64 ≤ i' → i' < 64 + j → zb (zOf true ds) i' = if true = true then zb (zOf true ds) (64 - 1) else 0) (fun i => 200 - (intOf i).toNat)
          case atStart => exact ⟨0, rfl, .inr rfl, fun i' h1 h2 => by omega⟩
          case round =>
            obtain ⟨j, rfl, hj, hall⟩ := hrel
            have HALL := Lib.hid hall
            clear hall
            by_cases hin : 64 + j < 7 * ds.length
            · have hin' : (64 : Int) + (j : Int) < 7 * (ds.length : Int) := by omega
              have HE := Lib.hid (show ((64 : Int) + (j : Int)).toNat = 64 + j by omega)
              have HAV := Lib.hid ht
              clear ht hj
              rcases zb_01 (zOf true ds) 63 with hc | hc
              · have ht : bits .and .u64 (N / 9223372036854775808) 1 = 0 := by rw [HAV.out, hc]
                have HCC := Lib.hid hc
                clear hc
                rcases zb_01 (zOf true ds) (64 + j) with hz | hz
                · have HZ := Lib.hid hz
                  clear hz hin
                  go_wp2_with fail
                  refine (bit_at s at_ _ _ HS.out h0 h1 ?x1 true ds 10 (by decide) H.out ?x2).mono ?_
                  case x1 => omega
                  case x2 => exact hin'
                  rintro e w1 ⟨rfl, rfl⟩
                  rw [HE.out, HZ.out]
                  go_wp2_with fail
                  go_round
                  case rel =>
                    refine ⟨j + 1, congrArg (Value.int .i64) (by omega), .inl (by omega), fun i' hi1 hi2 => ?_⟩
                    by_cases hi3 : i' < 64 + j
                    · exact HALL.out i' hi1 hi3
                    · obtain rfl : i' = 64 + j := by omega
                      rw [HZ.out]
                      exact HCC.out.symm
                  case measure => simp [intOf]; omega
                · have HZ := Lib.hid hz
                  clear hz hin
                  have HQ := Lib.hid (show ¬ roomB 64 true ds = true by
                    intro hq
                    rw [roomB_iff] at hq
                    have h3 := bits_room true ds 64 (by decide) hq (64 + j) (by omega)
                    rw [HZ.out] at h3
                    have h4 := HCC.out
                    simp only [if_true, show 64 - 1 = 63 from rfl] at h3
                    rw [h4] at h3
                    omega)
                  go_wp2_with fail
                  refine (bit_at s at_ _ _ HS.out h0 h1 ?y1 true ds 10 (by decide) H.out ?y2).mono ?_
                  case y1 => omega
                  case y2 => exact hin'
                  rintro e w1 ⟨rfl, rfl⟩
                  rw [HE.out, HZ.out]
                  go_wp2_with fail
                  go_ret3
                  refine ⟨?_, rfl⟩
                  rw [HR.out, if_neg HQ.out]
                  rfl
              · have ht : bits .and .u64 (N / 9223372036854775808) 1 = 1 := by rw [HAV.out, hc]
                have HCC := Lib.hid hc
                clear hc
                rcases zb_01 (zOf true ds) (64 + j) with hz | hz
                · have HZ := Lib.hid hz
                  clear hz hin
                  have HQ := Lib.hid (show ¬ roomB 64 true ds = true by
                    intro hq
                    rw [roomB_iff] at hq
                    have h3 := bits_room true ds 64 (by decide) hq (64 + j) (by omega)
                    rw [HZ.out] at h3
                    have h4 := HCC.out
                    simp only [if_true, show 64 - 1 = 63 from rfl] at h3
                    rw [h4] at h3
                    omega)
                  go_wp2_with fail
                  refine (bit_at s at_ _ _ HS.out h0 h1 ?u1 true ds 10 (by decide) H.out ?u2).mono ?_
                  case u1 => omega
                  case u2 => exact hin'
                  rintro e w1 ⟨rfl, rfl⟩
                  rw [HE.out, HZ.out]
                  go_wp2_with fail
                  go_ret3
                  refine ⟨?_, rfl⟩
                  rw [HR.out, if_neg HQ.out]
                  rfl
                · have HZ := Lib.hid hz
                  clear hz hin
                  go_wp2_with fail
                  refine (bit_at s at_ _ _ HS.out h0 h1 ?v1 true ds 10 (by decide) H.out ?v2).mono ?_
                  case v1 => omega
                  case v2 => exact hin'
                  rintro e w1 ⟨rfl, rfl⟩
                  rw [HE.out, HZ.out]
                  go_wp2_with fail
                  go_round
                  case rel =>
                    refine ⟨j + 1, congrArg (Value.int .i64) (by omega), .inl (by omega), fun i' hi1 hi2 => ?_⟩
                    by_cases hi3 : i' < 64 + j
                    · exact HALL.out i' hi1 hi3
                    · obtain rfl : i' = 64 + j := by omega
                      rw [HZ.out]
                      exact HCC.out.symm
                  case measure => simp [intOf]; omega
            · have hin' : decide ((64 : Int) + (j : Int) < 7 * (ds.length : Int)) = false := decide_eq_false (by omega)
              have HQ := Lib.hid (show roomB 64 true ds = true by
                rw [roomB_iff]
                have h3 := room_bits true ini last hlast 64 (by decide) (fun i hi1 hi2 => by
                  rw [← HDS.out]
                  exact HALL.out i hi1 (by have := HDL.out; omega))
                rw [← HDS.out] at h3
                exact h3)
              clear hin hj
              go_wp2_with fail
              go_ret3
              refine ⟨?_, rfl⟩
              rw [HR.out, if_pos HQ.out, HN.out]
              exact ret3 rfl (by first | rfl | omega) rfl

theorem refA_u (bits : Nat) (l : List UInt8) (at_ : Int) : refA bits false l at_ = ansU bits l at_ := by
  unfold refA ansU readU
  split
  · rfl
  · split
    · rename_i h; rw [h]
    · rename_i ds h
      rw [h]
      simp only [roomB, rdU, if_neg (show ¬ (false = true) by decide)]
      by_cases hv : val ds < 2 ^ bits
      · have hz : zOf false ds % 2 ^ bits = (val ds : Int) := by
          have hc : ((2 ^ bits : Nat) : Int) = 2 ^ bits := by rw [Int.natCast_pow]; rfl
          show (val ds : Int) % 2 ^ bits = _
          rw [← hc, ← Int.natCast_emod, Nat.mod_eq_of_lt hv]
        simp [hv, hz]
      · simp [hv]

theorem ansU_range (bits : Nat) (l : List UInt8) (at_ : Int) : 0 ≤ (ansU bits l at_).1 ∧ (ansU bits l at_).1 < 2 ^ bits := by
  have hp := pow_pos2 bits
  unfold ansU readU
  split
  · exact ⟨by simp, by simpa using hp⟩
  · split
    · exact ⟨by simp, by simpa using hp⟩
    · rename_i v n h
      split at h
      · cases h
      · rename_i ds _
        unfold rdU at h
        split at h
        · rename_i hv
          simp only [Option.map_some, Option.some.injEq, Prod.mk.injEq] at h
          have hc : ((2 ^ bits : Nat) : Int) = 2 ^ bits := by rw [Int.natCast_pow]; rfl
          exact ⟨Int.natCast_nonneg _, by simp only []; omega⟩
        · cases h

theorem refA_s (bits : Nat) (l : List UInt8) (at_ : Int) : (refA bits true l at_).2 = (ansS bits l at_).2 ∧ (refA bits true l at_).1 = (ansS bits l at_).1 % 2 ^ bits ∧ -(2 ^ (bits - 1) : Int) ≤ (ansS bits l at_).1 ∧ (ansS bits l at_).1 < (2 ^ (bits - 1) : Int) := by
  have hp := pow_pos2 (bits - 1)
  unfold refA ansS readS
  split
  · exact ⟨rfl, by simp, by simp; omega, by simpa using hp⟩
  · split
    · rename_i h
      rw [h]
      exact ⟨rfl, by simp, by simp; omega, by simpa using hp⟩
    · rename_i ds h
      rw [h]
      simp only [roomB, rdS, if_true]
      by_cases hv : -(2 ^ (bits - 1) : Int) ≤ sval ds ∧ sval ds < (2 ^ (bits - 1) : Int)
      · simp only [if_pos hv, Option.isSome_some, if_true, Option.map_some]
        exact ⟨trivial, rfl, hv⟩
      · simp only [if_neg hv, Option.isSome_none, Bool.false_eq_true, if_false, Option.map_none]
        exact ⟨trivial, by simp, by omega, hp⟩

set_option maxRecDepth 100000 in
set_option maxHeartbeats 400000 in
theorem refU32_any (s : ByteArray) (at_ : Int) (w : World) (hs : s.size ≤ maxLen) :
    Calls Try.prog 20 #[.string s, .int .i64 at_] w fun e w' =>
      e = .returned (.tuple #[.int .u32 (ansU 32 s.data.toList at_).1, .int .i64 (ansU 32 s.data.toList at_).2.1, .int .i64 (ansU 32 s.data.toList at_).2.2]) ∧ w = w' := by
  have HT0 := fun w => refTake_u32 s at_ w hs
  simp only [refA_u] at HT0
  have HT := Lib.hid HT0
  have hr := ansU_range 32 s.data.toList at_
  have hw : IntKind.u32.wrap (ansU 32 s.data.toList at_).1 = (ansU 32 s.data.toList at_).1 := by rw [IntKind.wrap_u32]; omega
  clear hr
  clear HT0 hs
  go_enter Try.func20, Try.ntmps20
  go_wp2_with (go_at_call 28; refine (HT.out _).mono ?_; rintro e w' ⟨rfl, rfl⟩)
  go_ret3
  exact ⟨rfl, rfl⟩

set_option maxRecDepth 100000 in
set_option maxHeartbeats 400000 in
theorem refS32_any (s : ByteArray) (at_ : Int) (w : World) (hs : s.size ≤ maxLen) :
    Calls Try.prog 21 #[.string s, .int .i64 at_] w fun e w' =>
      e = .returned (.tuple #[.int .i32 (ansS 32 s.data.toList at_).1, .int .i64 (ansS 32 s.data.toList at_).2.1, .int .i64 (ansS 32 s.data.toList at_).2.2]) ∧ w = w' := by
  have HT0 := fun w => refTake_s32 s at_ w hs
  have HT := Lib.hid HT0
  have hr := refA_s 32 s.data.toList at_
  have HW := Lib.hid (show wrap32 (IntKind.u32.wrap (refA 32 true s.data.toList at_).1) = (ansS 32 s.data.toList at_).1 by
    rw [hr.2.1, IntKind.wrap_u32]
    have h3 := hr.2.2
    unfold wrap32
    omega)
  have H2 := Lib.hid hr.1
  clear hr
  clear HT0 hs
  go_enter Try.func21, Try.ntmps21
  go_wp2_with (go_at_call 28; refine (HT.out _).mono ?_; rintro e w' ⟨rfl, rfl⟩)
  go_ret3
  refine ⟨?_, rfl⟩
  rw [← HW.out, ← H2.out]
  first | rfl | exact ret3 (by first | rfl | simp) rfl rfl

set_option maxRecDepth 100000 in
set_option maxHeartbeats 400000 in
theorem refU64_any (s : ByteArray) (at_ : Int) (w : World) (hs : s.size ≤ maxLen) :
    Calls Try.prog 22 #[.string s, .int .i64 at_] w fun e w' =>
      e = .returned (.tuple #[.int .u64 (ansU 64 s.data.toList at_).1, .int .i64 (ansU 64 s.data.toList at_).2.1, .int .i64 (ansU 64 s.data.toList at_).2.2]) ∧ w = w' := by
  have HT0 := fun w => refTake_u64 s at_ w hs
  simp only [refA_u] at HT0
  have HT := Lib.hid HT0
  clear HT0 hs
  go_enter Try.func22, Try.ntmps22
  go_wp2_with (go_at_call 28; refine (HT.out _).mono ?_; rintro e w' ⟨rfl, rfl⟩)
  go_ret3
  exact ⟨rfl, rfl⟩

set_option maxRecDepth 100000 in
set_option maxHeartbeats 400000 in
theorem refS64_any (s : ByteArray) (at_ : Int) (w : World) (hs : s.size ≤ maxLen) :
    Calls Try.prog 23 #[.string s, .int .i64 at_] w fun e w' =>
      e = .returned (.tuple #[.int .i64 (ansS 64 s.data.toList at_).1, .int .i64 (ansS 64 s.data.toList at_).2.1, .int .i64 (ansS 64 s.data.toList at_).2.2]) ∧ w = w' := by
  have HT0 := fun w => refTake_s64 s at_ w hs
  have HT := Lib.hid HT0
  have hr := refA_s 64 s.data.toList at_
  have HW := Lib.hid (show wrap64 (refA 64 true s.data.toList at_).1 = (ansS 64 s.data.toList at_).1 by
    rw [hr.2.1]
    have h3 := hr.2.2
    unfold wrap64
    omega)
  have H2 := Lib.hid hr.1
  clear hr
  clear HT0 hs
  go_enter Try.func23, Try.ntmps23
  go_wp2_with (go_at_call 28; refine (HT.out _).mono ?_; rintro e w' ⟨rfl, rfl⟩)
  go_ret3
  refine ⟨?_, rfl⟩
  rw [← HW.out, ← H2.out]
  first | rfl | exact ret3 (by first | rfl | simp) rfl rfl
end Go.Proofs.Ytckigiemeimheaa.Leb
