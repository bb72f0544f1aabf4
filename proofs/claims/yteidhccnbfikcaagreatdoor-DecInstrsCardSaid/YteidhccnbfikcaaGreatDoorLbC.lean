/-
  LebRefA, LebRefPlain, LebRefBN, LebRefCN in one.
-/
import Derived.Test.YteidhccnbfikcaaGreatDoorLbA
import Derived.Test.YteidhccnbfikcaaGreatDoorLbB
import Derived.Test.YteidhccnbfikcaaGreatDoorLebRefPut
/- LebRefA: What the document's own PutU, PutS, size and bit answer. No condition beyond what each theorem names. -/
namespace Go.Proofs.YteidhccnbfikcaaGreatDoor.Leb
open Go.RowKit Go.Proofs.YteidhccnbfikcaaGreatDoor.Bytes
set_option linter.unusedVariables false

/-- how many bytes a number has; 0: it is none -/
def sizeA (m : Nat) (l : List UInt8) : Nat :=
  match scan m l with
  | some ds => ds.length
  | none => 0

set_option maxRecDepth 100000 in
set_option maxHeartbeats 400000 in
theorem size_in (s : ByteArray) (p m : Nat) (w : World) (hs : s.size ≤ maxLen) (hp : p ≤ s.size) (hm : m ≤ 10) :
    Calls Tryz.prog 236 #[.string s, .int .i64 p, .int .i64 m] w fun e w' => e = .returned (.int .i64 (sizeA m (s.data.toList.drop p) : Nat)) ∧ w = w' := by
  unfold maxLen at hs
  go_enter Tryz.func236, Tryz.ntmps236
  go_wp2
  go_loop [7] (fun i => ∃ k : Nat, k ≤ m ∧ p + k ≤ s.size ∧ i = .int .i64 k ∧ (∀ b ∈ (s.data.toList.drop p).take k, 128 ≤ b.toNat)) (fun i => m - (intOf i).toNat)
  case atStart => exact ⟨0, Nat.zero_le _, by omega, rfl, by simp⟩
  case round =>
    obtain ⟨k, hk, hk2, rfl, hb⟩ := hrel
    have hlen := take_len s p k hk2
    have HB := Lib.hid hb
    clear hb
    by_cases h1 : k < m
    · by_cases h2 : p + k < s.size
      · have HT := Lib.hid (take_at s p k h2)
        have HL := Lib.hid hlen
        clear hlen
        by_cases h3 : s[p + k].toNat < 128
        · have HA := Lib.hid (show sizeA m (s.data.toList.drop p) = k + 1 by
            have e := split_at s p k h2
            have := scan_of (rest := (s.data.toList.drop p).drop (k + 1)) (k := m) HB.out h3 (by rw [HL.out]; omega)
            rw [← e] at this
            unfold sizeA
            rw [this]
            simp [HL.out])
          go_wp2
          go_ret
          refine ⟨?_, rfl⟩
          rw [HA.out]
          rfl
        · have h4 : 128 ≤ s[p + k].toNat := by omega
          go_wp2
          go_round
          case rel =>
            refine ⟨k + 1, by omega, by omega, by go_num, ?_⟩
            rw [HT.out]
            intro b hb
            rcases List.mem_append.1 hb with hb | hb
            · exact HB.out b hb
            · simp at hb; subst hb; exact h4
          case measure => simp [intOf]; omega
      · have HA := Lib.hid (show sizeA m (s.data.toList.drop p) = 0 by
          have e : (s.data.toList.drop p).take k = s.data.toList.drop p := List.take_of_length_le (by simp only [List.length_drop, Array.length_toList]; show s.size - p ≤ k; omega)
          have := scan_none_of (rest := []) (k := m) HB.out (.inr rfl)
          rw [List.append_nil, e] at this
          unfold sizeA
          rw [this])
        clear hlen
        go_wp2
        go_ret
        refine ⟨?_, rfl⟩
        rw [HA.out]
        rfl
    · have HA := Lib.hid (show sizeA m (s.data.toList.drop p) = 0 by
        have := scan_none_of (rest := (s.data.toList.drop p).drop k) (k := m) HB.out (.inl (by rw [hlen]; omega))
        rw [List.take_append_drop] at this
        unfold sizeA
        rw [this])
      clear hlen
      go_wp2
      go_ret
      refine ⟨?_, rfl⟩
      rw [HA.out]
      rfl

set_option maxRecDepth 100000 in
set_option maxHeartbeats 400000 in
theorem bit_in (s : ByteArray) (p n : Nat) (w : World) (hs : s.size ≤ maxLen) (hn : n ≤ 70) (hp : p + n / 7 < s.size) :
    Calls Tryz.prog 237 #[.string s, .int .i64 p, .int .i64 n] w fun e w' => e = .returned (.int .i64 ((s[p + n / 7].toNat / 2 ^ (n % 7) % 2 : Nat) : Int)) ∧ w = w' := by
  unfold maxLen at hs
  go_enter Tryz.func237, Tryz.ntmps237
  go_wp2
  go_ret
  refine ⟨?_, rfl⟩
  have hb := s[p + n / 7].toNat_lt
  have hd : s[p + n / 7].toNat / 2 ^ (n % 7) ≤ s[p + n / 7].toNat := Nat.div_le_self _ _
  have hc : ((s[p + n / 7].toNat : Int) / 2 ^ (n % 7)) = ((s[p + n / 7].toNat / 2 ^ (n % 7) : Nat) : Int) := by rw [Int.natCast_ediv, Int.natCast_pow]; rfl
  refine congrArg (fun z => Ending.returned (.int .i64 z)) ?_
  show bits .and .i64 (wrap64 ((s[p + n / 7].toNat : Int) / 2 ^ (n % 7))) 1 = _
  rw [and1i, hc]
  unfold wrap64
  omega

end Go.Proofs.YteidhccnbfikcaaGreatDoor.Leb

/- LebRefPlain: The bits of a number, in plain Lean: what the document's own way of reading LEB128 comes to. No condition beyond what each theorem names. -/
namespace Go.Proofs.YteidhccnbfikcaaGreatDoor.Leb
set_option linter.unusedVariables false

/-- bit i of a number -/
def zb (Z : Int) (i : Nat) : Int := Z / 2 ^ i % 2

theorem zb_01 (Z : Int) (i : Nat) : zb Z i = 0 ∨ zb Z i = 1 := by unfold zb; omega
theorem pow_pos2 (i : Nat) : (0 : Int) < 2 ^ i := Int.pow_pos (by decide)
theorem pow_succ2 (i : Nat) : (2 : Int) ^ (i + 1) = 2 * 2 ^ i := by rw [Int.pow_succ]; omega

theorem low_step (Z : Int) (i : Nat) : Z % 2 ^ (i + 1) = Z % 2 ^ i + 2 ^ i * zb Z i := by
  unfold zb
  have hp := pow_pos2 i
  have h1 : Z / 2 ^ (i + 1) = Z / 2 ^ i / 2 := by rw [pow_succ2, Int.mul_comm, Int.ediv_ediv_of_nonneg (Int.le_of_lt hp)]
  have h2 := Int.mul_ediv_add_emod Z (2 ^ i)
  have h3 := Int.mul_ediv_add_emod Z (2 ^ (i + 1))
  have h4 := Int.mul_ediv_add_emod (Z / 2 ^ i) 2
  rw [h1, pow_succ2] at h3
  rw [pow_succ2]
  generalize Z / 2 ^ i = q at *
  generalize hr : q % 2 = r at *
  have h5 : 2 ^ i * q = 2 ^ i * (2 * (q / 2)) + 2 ^ i * r := by rw [← Int.mul_add, h4]
  have h6 : 2 * 2 ^ i * (q / 2) = 2 ^ i * (2 * (q / 2)) := by rw [Int.mul_comm 2, Int.mul_assoc]
  omega

/-- a number all of whose bits, up to its highest, are the same -/
theorem all_same (m : Nat) (Y c : Int) (h1 : -(2 ^ m : Int) ≤ Y) (h2 : Y < (2 ^ m : Int)) (h3 : ∀ j, j ≤ m → zb Y j = c) : Y = -c := by
  induction m generalizing Y with
  | zero =>
    have := h3 0 (Nat.le_refl _)
    simp [zb] at this h1 h2
    omega
  | succ m ih =>
    have e := pow_succ2 m
    have hy := ih (Y / 2) (by omega) (by omega) (fun j hj => by
      have := h3 (j + 1) (by omega)
      unfold zb at this ⊢
      rw [Int.ediv_ediv_of_nonneg (by decide), ← pow_succ2]
      exact this)
    have h0 := h3 0 (by omega)
    simp [zb] at h0
    omega

theorem zb_shift (Z : Int) (b j : Nat) : zb (Z / 2 ^ b) j = zb Z (b + j) := by
  unfold zb
  rw [Int.ediv_ediv_of_nonneg (Int.le_of_lt (pow_pos2 b)), ← Int.pow_add]

set_option maxRecDepth 100000 in
theorem byte_bits : ∀ n : Nat, n < 256 → ∀ i, i < 7 → (n % 128 / 2 ^ i) % 2 = n / 2 ^ i % 2 := by decide

/-- a bit of the bytes is that bit of the number -/
theorem val_bit (ds : List UInt8) (i : Nat) (h : i / 7 < ds.length) : (ds[i / 7].toNat / 2 ^ (i % 7)) % 2 = val ds / 2 ^ i % 2 := by
  induction ds generalizing i with
  | nil => simp at h
  | cons b l ih =>
    simp only [val]
    rcases Nat.lt_or_ge i 7 with hi | hi
    · have e0 : i / 7 = 0 := Nat.div_eq_of_lt hi
      have e1 : i % 7 = i := Nat.mod_eq_of_lt hi
      have hb := byte_bits b.toNat b.toNat_lt i hi
      simp only [e0, e1, List.getElem_cons_zero]
      rw [← hb]
      obtain ⟨c, hc⟩ : ∃ c, 128 = 2 ^ i * (2 * c) := by
        rcases (show i = 0 ∨ i = 1 ∨ i = 2 ∨ i = 3 ∨ i = 4 ∨ i = 5 ∨ i = 6 by omega) with rfl | rfl | rfl | rfl | rfl | rfl | rfl
        · exact ⟨64, rfl⟩
        · exact ⟨32, rfl⟩
        · exact ⟨16, rfl⟩
        · exact ⟨8, rfl⟩
        · exact ⟨4, rfl⟩
        · exact ⟨2, rfl⟩
        · exact ⟨1, rfl⟩
      have h128 : 128 * val l = 2 ^ i * (2 * (c * val l)) := by
        conv => lhs; rw [hc]
        rw [Nat.mul_assoc, Nat.mul_assoc]
      rw [h128, Nat.add_mul_div_left _ _ (Nat.pow_pos (by decide)), Nat.add_mul_mod_self_left]
    · have hl : (i - 7) / 7 < l.length := by simp at h; omega
      have := ih (i - 7) hl
      have e0 : i / 7 = (i - 7) / 7 + 1 := by omega
      have e1 : i % 7 = (i - 7) % 7 := by omega
      simp only [e0, List.getElem_cons_succ, e1]
      rw [this]
      have e2 : (2 : Nat) ^ i = 128 * 2 ^ (i - 7) := by
        conv => lhs; rw [show i = 7 + (i - 7) by omega, Nat.pow_add]
      rw [e2, ← Nat.div_div_eq_div_mul, Nat.add_mul_div_left _ _ (by decide), Nat.div_eq_of_lt (Nat.mod_lt _ (by decide)), Nat.zero_add]

/-- the number that is read: without a sign, with one -/
def zOf (sign : Bool) (ds : List UInt8) : Int := if sign then sval ds else (val ds : Int)

theorem cast_bit (v i : Nat) : zb (v : Int) i = ((v / 2 ^ i % 2 : Nat) : Int) := by
  unfold zb
  rw [Int.natCast_emod, Int.natCast_ediv, Int.natCast_pow]
  rfl

theorem sval_cases (ds : List UInt8) : sval ds = (val ds : Int) ∧ (lastB ds).toNat % 128 < 64 ∨ sval ds = (val ds : Int) - 2 ^ (7 * ds.length) ∧ 64 ≤ (lastB ds).toNat % 128 := by
  unfold sval
  split
  · rename_i h; exact .inr ⟨rfl, h⟩
  · rename_i h
    refine .inl ⟨by omega, ?_⟩
    have : ¬ 64 ≤ (lastB ds).toNat % 128 := h
    omega

theorem zOf_bit (sign : Bool) (ds : List UInt8) (i : Nat) (h : i / 7 < ds.length) : ((ds[i / 7].toNat / 2 ^ (i % 7) % 2 : Nat) : Int) = zb (zOf sign ds) i := by
  rw [val_bit ds i h, ← cast_bit]
  cases sign
  · rfl
  · show _ = zb (sval ds) i
    rcases sval_cases ds with ⟨e, _⟩ | ⟨e, _⟩
    · rw [e]
    · rw [e]
      unfold zb
      have hle : i < 7 * ds.length := by omega
      have e2 : (2 : Int) ^ (7 * ds.length) = 2 ^ i * (2 * 2 ^ (7 * ds.length - i - 1)) := by
        rw [← pow_succ2, ← Int.pow_add]
        congr 1
        omega
      rw [e2, Int.sub_eq_add_neg, ← Int.mul_neg, Int.add_mul_ediv_left _ _ (by have := pow_pos2 i; omega)]
      omega

theorem sval_room (ini : List UInt8) (last : UInt8) (h : last.toNat < 128) :
    -(2 ^ (7 * ini.length + 6) : Int) ≤ sval (ini ++ [last]) ∧ sval (ini ++ [last]) < (2 ^ (7 * ini.length + 6) : Int) := short_s ini last h

/-- behind the last byte -/
theorem zOf_beyond (sign : Bool) (ini : List UInt8) (last : UInt8) (h : last.toNat < 128) (i : Nat) (hi : 7 * (ini.length + 1) ≤ i) :
    zb (zOf sign (ini ++ [last])) i = if sign = true ∧ 64 ≤ last.toNat then 1 else 0 := by
  have hl : (ini ++ [last]).length = ini.length + 1 := by simp
  have hv := val_lt (ini ++ [last])
  rw [hl] at hv
  have hp : (2 : Nat) ^ (7 * (ini.length + 1)) ≤ 2 ^ i := Nat.pow_le_pow_right (by decide) hi
  have hpi : ((2 ^ i : Nat) : Int) = 2 ^ i := by rw [Int.natCast_pow]; rfl
  have hpk : ((2 ^ (7 * (ini.length + 1)) : Nat) : Int) = 2 ^ (7 * (ini.length + 1)) := by rw [Int.natCast_pow]; rfl
  have hz : zb (val (ini ++ [last]) : Int) i = 0 := by
    unfold zb
    rw [Int.ediv_eq_zero_of_lt (Int.natCast_nonneg _) (by omega)]
    rfl
  cases sign
  · simp only [zOf, if_neg (show ¬ (false = true) by decide)]
    rw [hz]
    simp
  · simp only [zOf, if_true, true_and]
    rcases sval_cases (ini ++ [last]) with ⟨e, e2⟩ | ⟨e, e2⟩
    · rw [lastB_snoc, Nat.mod_eq_of_lt h] at e2
      rw [if_neg (by omega), e, hz]
    · rw [lastB_snoc, Nat.mod_eq_of_lt h] at e2
      rw [if_pos e2, e, hl]
      unfold zb
      have hneg : ((val (ini ++ [last]) : Int) - 2 ^ (7 * (ini.length + 1))) / 2 ^ i = -1 := by
        have h1 := pow_pos2 i
        rw [Int.ediv_eq_iff_of_pos h1] <;> omega
      rw [hneg]
      rfl

/-- the bits above are as they must be just if there is room -/
theorem room_bits (sign : Bool) (ini : List UInt8) (last : UInt8) (h : last.toNat < 128) (bits : Nat) (hb : 0 < bits)
    (hall : ∀ i, bits ≤ i → i < 7 * (ini.length + 1) → zb (zOf sign (ini ++ [last])) i = if sign = true then zb (zOf sign (ini ++ [last])) (bits - 1) else 0) :
    if sign = true then -(2 ^ (bits - 1) : Int) ≤ sval (ini ++ [last]) ∧ sval (ini ++ [last]) < (2 ^ (bits - 1) : Int) else val (ini ++ [last]) < 2 ^ bits := by
  have hl : (ini ++ [last]).length = ini.length + 1 := by simp
  have hv := val_lt (ini ++ [last])
  rw [hl] at hv
  cases sign
  · simp only [if_neg (show ¬ (false = true) by decide)] at *
    rcases Nat.lt_or_ge bits (7 * (ini.length + 1)) with hk | hk
    · have hz : zOf false (ini ++ [last]) = (val (ini ++ [last]) : Int) := rfl
      rw [hz] at hall
      have hpb : ((2 ^ bits : Nat) : Int) = 2 ^ bits := by rw [Int.natCast_pow]; rfl
      obtain ⟨m, hm⟩ : ∃ m, 7 * (ini.length + 1) = bits + m := ⟨7 * (ini.length + 1) - bits, by omega⟩
      rw [hm, Nat.pow_add] at hv
      have hy : ((val (ini ++ [last]) : Int) / 2 ^ bits) = -0 := by
        have hd : (val (ini ++ [last]) : Int) / 2 ^ bits = ((val (ini ++ [last]) / 2 ^ bits : Nat) : Int) := by rw [Int.natCast_ediv, hpb]
        have hlt : val (ini ++ [last]) / 2 ^ bits < 2 ^ m := Nat.div_lt_of_lt_mul hv
        have hpm : ((2 ^ m : Nat) : Int) = 2 ^ m := by rw [Int.natCast_pow]; rfl
        refine all_same m _ 0 (by have := pow_pos2 m; rw [hd]; have h0 := Int.natCast_nonneg (val (ini ++ [last]) / 2 ^ bits); omega) (by rw [hd]; omega) (fun j hj => ?_)
        rw [zb_shift]
        rcases Nat.lt_or_ge j m with hjm | hjm
        · exact hall _ (by omega) (by omega)
        · have := zOf_beyond false ini last h (bits + j) (by omega)
          rw [hz] at this
          simpa using this
      have hd2 := Int.mul_ediv_add_emod (val (ini ++ [last]) : Int) (2 ^ bits)
      have := Int.emod_lt_of_pos (val (ini ++ [last]) : Int) (pow_pos2 bits)
      rw [hy] at hd2
      omega
    · have : (2 : Nat) ^ (7 * (ini.length + 1)) ≤ 2 ^ bits := Nat.pow_le_pow_right (by decide) hk
      omega
  · simp only [if_true] at *
    have hr := short_s ini last h
    have hz : zOf true (ini ++ [last]) = sval (ini ++ [last]) := rfl
    rw [hz] at hall
    generalize sval (ini ++ [last]) = Z at *
    rcases Nat.lt_or_ge (bits - 1) (7 * ini.length + 6) with hk | hk
    · obtain ⟨m, hm⟩ : ∃ m, 7 * ini.length + 6 = bits - 1 + m := ⟨7 * ini.length + 6 - (bits - 1), by omega⟩
      rw [hm, Int.pow_add] at hr
      have hp := pow_pos2 (bits - 1)
      have hy : Z / 2 ^ (bits - 1) = -(zb Z (bits - 1)) := by
        refine all_same m _ _ ?_ ?_ (fun j hj => ?_)
        · apply Int.le_ediv_of_mul_le hp
          rw [Int.neg_mul, Int.mul_comm]
          exact hr.1
        · apply Int.ediv_lt_of_lt_mul hp
          rw [Int.mul_comm]
          exact hr.2
        · rw [zb_shift]
          rcases Nat.eq_zero_or_pos j with rfl | hj0
          · rfl
          · exact hall _ (by omega) (by omega)
      have hd2 := Int.mul_ediv_add_emod Z (2 ^ (bits - 1))
      have h1 := Int.emod_lt_of_pos Z hp
      have h2 := Int.emod_nonneg Z (show (2 : Int) ^ (bits - 1) ≠ 0 by omega)
      rw [hy] at hd2
      rcases zb_01 Z (bits - 1) with h3 | h3 <;> rw [h3] at hd2 <;> omega
    · have : (2 : Int) ^ (7 * ini.length + 6) ≤ 2 ^ (bits - 1) := by exact_mod_cast Nat.pow_le_pow_right (show 0 < 2 by decide) hk
      omega

/-- and if there is room they are -/
theorem bits_room (sign : Bool) (ds : List UInt8) (bits : Nat) (hb : 0 < bits)
    (h : if sign = true then -(2 ^ (bits - 1) : Int) ≤ sval ds ∧ sval ds < (2 ^ (bits - 1) : Int) else val ds < 2 ^ bits) (i : Nat) (hi : bits ≤ i) :
    zb (zOf sign ds) i = if sign = true then zb (zOf sign ds) (bits - 1) else 0 := by
  cases sign
  · simp only [if_neg (show ¬ (false = true) by decide)] at *
    have hz : zOf false ds = (val ds : Int) := rfl
    have hp : (2 : Nat) ^ bits ≤ 2 ^ i := Nat.pow_le_pow_right (by decide) hi
    have hpi : ((2 ^ i : Nat) : Int) = 2 ^ i := by rw [Int.natCast_pow]; rfl
    rw [hz]
    unfold zb
    rw [Int.ediv_eq_zero_of_lt (Int.natCast_nonneg _) (by omega)]
    rfl
  · simp only [if_true] at *
    have hz : zOf true ds = sval ds := rfl
    rw [hz]
    generalize sval ds = Z at *
    have key : ∀ j, bits - 1 ≤ j → Z / 2 ^ j = if 0 ≤ Z then 0 else -1 := by
      intro j hj
      have hp : (2 : Int) ^ (bits - 1) ≤ 2 ^ j := by exact_mod_cast Nat.pow_le_pow_right (show 0 < 2 by decide) hj
      have h1 := pow_pos2 j
      split
      · exact Int.ediv_eq_zero_of_lt (by omega) (by omega)
      · rw [Int.ediv_eq_iff_of_pos h1] <;> omega
    unfold zb
    rw [key i (by omega), key (bits - 1) (Nat.le_refl _)]
end Go.Proofs.YteidhccnbfikcaaGreatDoor.Leb

/- LebRefBN: What the document's own take, U32, S32, U64 and S64 answer. No condition beyond what each theorem names. -/
namespace Go.Proofs.YteidhccnbfikcaaGreatDoor.Leb
open Go.RowKit
set_option linter.unusedVariables false

/-- is there room? -/
def roomB (bits : Nat) (sign : Bool) (ds : List UInt8) : Bool := if sign then (rdS bits ds).isSome else (rdU bits ds).isSome

/-- what take answers -/
def refA (bits : Nat) (sign : Bool) (l : List UInt8) (at_ : Int) : Int × Int × Int :=
  if at_ < 0 ∨ (l.length : Int) < at_ then (0, 0, 1)
  else match scan ((bits + 6) / 7) (l.drop at_.toNat) with
    | none => (0, 0, 2)
    | some ds => if roomB bits sign ds then (zOf sign ds % 2 ^ bits, at_ + ds.length, 0) else (0, 0, 2)

theorem roomB_iff (bits : Nat) (sign : Bool) (ds : List UInt8) :
    roomB bits sign ds = true ↔ if sign = true then -(2 ^ (bits - 1) : Int) ≤ sval ds ∧ sval ds < (2 ^ (bits - 1) : Int) else val ds < 2 ^ bits := by
  cases sign
  · simp only [roomB, rdU, if_neg (show ¬ (false = true) by decide)]
    split <;> simp_all
  · simp only [roomB, rdS, if_true]
    split <;> simp_all

theorem size_at (s : ByteArray) (at_ m : Int) (w : World) (hs : s.size ≤ maxLen) (h0 : 0 ≤ at_) (h1 : at_ ≤ s.size) (hm0 : 0 ≤ m) (hm : m ≤ 10) (k : Nat) (hk : sizeA m.toNat (s.data.toList.drop at_.toNat) = k) :
    Calls Tryz.prog 236 #[.string s, .int .i64 at_, .int .i64 m] w fun e w' => e = .returned (.int .i64 (k : Int)) ∧ w = w' := by
  obtain ⟨p, rfl⟩ := Int.eq_ofNat_of_zero_le h0
  obtain ⟨j, rfl⟩ := Int.eq_ofNat_of_zero_le hm0
  refine (size_in s p j w hs (by omega) (by omega)).mono ?_
  rintro e w' ⟨rfl, rfl⟩
  have h' : sizeA j (s.data.toList.drop p) = k := hk
  rw [h']
  exact ⟨rfl, rfl⟩

/-- a bit of the number that stands from a place on -/
theorem bit_at (s : ByteArray) (at_ n : Int) (w : World) (hs : s.size ≤ maxLen) (h0 : 0 ≤ at_) (h1 : at_ ≤ s.size) (hn : 0 ≤ n) (sign : Bool) (ds : List UInt8) (m : Nat) (hm : m ≤ 10) (hsc : scan m (s.data.toList.drop at_.toNat) = some ds) (hlt : n < 7 * (ds.length : Int)) :
    Calls Tryz.prog 237 #[.string s, .int .i64 at_, .int .i64 n] w fun e w' => e = .returned (.int .i64 (zb (zOf sign ds) n.toNat)) ∧ w = w' := by
  obtain ⟨p, rfl⟩ := Int.eq_ofNat_of_zero_le h0
  obtain ⟨i, rfl⟩ := Int.eq_ofNat_of_zero_le hn
  have hsc' : scan m (s.data.toList.drop p) = some ds := hsc
  obtain ⟨ini, last, rest, hds, hl, hlast, hini, hlen⟩ := scan_some hsc'
  have hdl : ds.length = ini.length + 1 := by rw [hds]; simp
  have hi7 : i / 7 < ds.length := by omega
  have hpre : s.data.toList.drop p = ds ++ rest := by rw [hl, hds]; simp
  have hsz : p + ds.length ≤ s.size := by
    have := congrArg List.length hpre
    rw [List.length_drop, List.length_append] at this
    have e : s.data.toList.length = s.size := rfl
    omega
  have hget : s[p + i / 7]'(by omega) = ds[i / 7] := by
    have h3 : (s.data.toList.drop p)[i / 7]'(by rw [hpre, List.length_append]; omega) = ds[i / 7] := by
      simp only [hpre]
      rw [List.getElem_append_left hi7]
    rw [← h3, List.getElem_drop]
    rfl
  refine (bit_in s p i w hs (by omega) (by omega)).mono ?_
  rintro e w' ⟨rfl, rfl⟩
  refine ⟨?_, rfl⟩
  rw [hget, zOf_bit sign ds i hi7]
  rfl
end Go.Proofs.YteidhccnbfikcaaGreatDoor.Leb

/- LebRefCN: What the document's own take answers, with and without a sign, of 32 and of 64 bits; and U32, S32, U64, S64. No condition beyond what each theorem names. -/
namespace Go.Proofs.YteidhccnbfikcaaGreatDoor.Leb
open Go.RowKit
set_option linter.unusedVariables false

/-- one bit more -/
theorem or_bit (Z : Int) (j : Nat) (hj : j ≤ 63) (h : zb Z j = 1) : bits .or .u64 (Z % 2 ^ j) (IntKind.u64.wrap (2 ^ j)) = Z % 2 ^ (j + 1) := by
  have hp := pow_pos2 j
  have hc : ((2 ^ j : Nat) : Int) = 2 ^ j := by rw [Int.natCast_pow]; rfl
  have h63 : (2 : Nat) ^ j ≤ 2 ^ 63 := Nat.pow_le_pow_right (by decide) hj
  have h0 := Int.emod_nonneg Z (show (2 : Int) ^ j ≠ 0 by omega)
  have h1 := Int.emod_lt_of_pos Z hp
  have e1 : IntKind.u64.wrap (2 ^ j) = ((2 ^ j : Nat) : Int) := by rw [IntKind.wrap_u64, hc]; omega
  obtain ⟨r, hr⟩ := Int.eq_ofNat_of_zero_le h0
  rw [low_step, h, hr, e1, bits_or_u64_nat _ _ (by omega) (by omega), Nat.or_comm]
  have := Nat.two_pow_add_eq_or_of_lt (show r < 2 ^ j by omega) 1
  rw [Nat.mul_one] at this
  rw [← this]
  omega
theorem no_bit (Z : Int) (j : Nat) (h : zb Z j = 0) : Z % 2 ^ j = Z % 2 ^ (j + 1) := by rw [low_step, h]; simp

/-- the highest bit of what has been read -/
theorem top_bit (Z : Int) (b : Nat) (hb : b ≤ 63) : bits .and .u64 (Z % 2 ^ (b + 1) / 2 ^ b) 1 = zb Z b := by
  have hp := pow_pos2 b
  have h0 := Int.emod_nonneg Z (show (2 : Int) ^ b ≠ 0 by omega)
  have h1 := Int.emod_lt_of_pos Z hp
  have e : Z % 2 ^ (b + 1) / 2 ^ b = zb Z b := by
    rw [low_step, Int.add_mul_ediv_left _ _ (by omega), Int.ediv_eq_zero_of_lt h0 h1, Int.zero_add]
  rw [e]
  rcases zb_01 Z b with h | h <;> rw [h] <;> rfl


set_option maxRecDepth 100000 in
set_option maxHeartbeats 2000000 in
theorem refTake_u32 (s : ByteArray) (at_ : Int) (w : World) (hs : s.size ≤ maxLen) :
    Calls Tryz.prog 208 #[.string s, .int .i64 at_, .int .i64 32, .bool false] w fun e w' =>
      e = .returned (.tuple #[.int .u64 (refA 32 false s.data.toList at_).1, .int .i64 (refA 32 false s.data.toList at_).2.1, .int .i64 (refA 32 false s.data.toList at_).2.2]) ∧ w = w' := by
  have hsz : (s.data.toList.length : Int) = s.size := rfl
  have HS := Lib.hid hs
  by_cases hout : at_ < 0 ∨ (s.size : Int) < at_
  · have HA := Lib.hid (show refA 32 false s.data.toList at_ = (0, 0, 1) by unfold refA; rw [if_pos (by rw [hsz]; exact hout)])
    clear hs hsz
    by_cases h1 : at_ < 0
    · clear hout
      go_enter Tryz.func208, Tryz.ntmps208
      go_wp2_with fail
      go_ret3
      refine ⟨?_, rfl⟩
      rw [HA.out]
      rfl
    · have h2 : (s.size : Int) < at_ := by omega
      clear hout
      go_enter Tryz.func208, Tryz.ntmps208
      go_wp2_with fail
      go_ret3
      refine ⟨?_, rfl⟩
      rw [HA.out]
      rfl
  · have h0 : 0 ≤ at_ := by omega
    have h1 : at_ ≤ s.size := by omega
    have o1 : decide (at_ < 0) = false := decide_eq_false (by omega)
    have o2 : decide ((s.size : Int) < at_) = false := decide_eq_false (by omega)
    have HC := Lib.hid (show ¬ (at_ < 0 ∨ (s.data.toList.length : Int) < at_) by rw [hsz]; exact hout)
    clear hout hs hsz
    cases hsc : scan 5 (s.data.toList.drop at_.toNat) with
    | none =>
      have HA := Lib.hid (show refA 32 false s.data.toList at_ = (0, 0, 2) by unfold refA; rw [if_neg HC.out]; simp [hsc])
      have HK := Lib.hid (show sizeA 5 (s.data.toList.drop at_.toNat) = 0 by unfold sizeA; rw [hsc])
      clear hsc
      go_enter Tryz.func208, Tryz.ntmps208
      go_wp2_with fail
      refine (size_at s at_ 5 _ HS.out h0 h1 (by decide) (by decide) 0 HK.out).mono ?_
      rintro e w1 ⟨rfl, rfl⟩
      go_wp2_with fail
      go_ret3
      refine ⟨?_, rfl⟩
      rw [HA.out]
      rfl
    | some ds =>
      obtain ⟨hl1, hl2, hl3⟩ := scan_len hsc
      have hb : at_ + ds.length ≤ s.size := by
        have e : (s.data.toList.drop at_.toNat).length = s.size - at_.toNat := by rw [List.length_drop]; rfl
        omega
      have hm : (s.size : Int) ≤ 9223372036854775807 := by have := HS.out; unfold maxLen at this; omega
      obtain ⟨ini, last, rest, hds, _, hlast, _, _⟩ := scan_some hsc
      have HDS := Lib.hid hds
      have hdl : ds.length = ini.length + 1 := by rw [hds]; simp
      have HDL := Lib.hid hdl
      have HR := Lib.hid (show refA 32 false s.data.toList at_ = if roomB 32 false ds then (zOf false ds % 2 ^ 32, at_ + ds.length, 0) else (0, 0, 2) by
        unfold refA; rw [if_neg HC.out]; simp only [hsc])
      have HK := Lib.hid (show sizeA 5 (s.data.toList.drop at_.toNat) = ds.length by unfold sizeA; rw [hsc])
      have H := Lib.hid hsc
      clear hsc hds hdl hl3
      obtain ⟨L, hL⟩ : ∃ L, zb (zOf false ds) (7 * (ds.length : Int) - 1).toNat = L := ⟨_, rfl⟩
      have HL := Lib.hid hL
      have HBY := Lib.hid (fun i (hi : 7 * ds.length ≤ i) => (show zb (zOf false ds) i = 0 by
        have h2 := zOf_beyond false ini last hlast i (by have := HDL.out; omega)
        rw [← HDS.out] at h2
        rw [h2]
        simp))
      have hL01 : L = 0 ∨ L = 1 := by rw [← hL]; exact zb_01 _ _
      clear hL
      have hnz : ((ds.length : Int) == 0) = false := by rw [beq_eq_false_iff_ne]; omega
      have hl0 : (0 : Int) ≤ 7 * (ds.length : Int) - 1 := by omega
      go_enter Tryz.func208, Tryz.ntmps208
      go_wp2_with fail
      refine (size_at s at_ 5 _ HS.out h0 h1 (by decide) (by decide) ds.length HK.out).mono ?_
      rintro e w1 ⟨rfl, rfl⟩
      go_wp2_with fail
      refine (bit_at s at_ _ _ HS.out h0 h1 ?c1 false ds 5 (by decide) H.out ?c2).mono ?_
      case c1 => exact hl0
      case c2 => omega
      rintro e w1 ⟨rfl, rfl⟩
      rw [HL.out]
      go_wp2_with fail
      go_loop [12, 14] (fun n i => ∃ j : Nat, j ≤ 32 ∧ i = .int .i64 j ∧ n = .int .u64 (zOf false ds % 2 ^ j)) (fun _ i => 32 - (intOf i).toNat)
      case atStart => exact ⟨0, by omega, rfl, by simp⟩
      case round =>
        obtain ⟨j, hj, rfl, rfl⟩ := hrel
        by_cases hlt : j < 32
        · by_cases hin : j < 7 * ds.length
          · have hin' : (j : Int) < 7 * (ds.length : Int) := by omega
            have hin2 : decide (7 * (ds.length : Int) ≤ (j : Int)) = false := decide_eq_false (by omega)
            rcases zb_01 (zOf false ds) j with hz | hz
            · have HZ := Lib.hid hz
              have HN := Lib.hid (no_bit (zOf false ds) j hz)
              clear hz hin
              go_wp2_with fail
              refine (bit_at s at_ _ _ HS.out h0 h1 ?d1 false ds 5 (by decide) H.out ?d2).mono ?_
              case d1 => omega
              case d2 => exact hin'
              rintro e w1 ⟨rfl, rfl⟩
              rw [Int.toNat_natCast, HZ.out]
              go_wp2_with fail
              exact ⟨⟨j + 1, by omega, by go_num, by rw [HN.out]⟩, by simp [intOf]; omega⟩
            · have HZ := Lib.hid hz
              have HN := Lib.hid (or_bit (zOf false ds) j (by omega) hz)
              clear hz hin
              go_wp2_with fail
              refine (bit_at s at_ _ _ HS.out h0 h1 ?e1 false ds 5 (by decide) H.out ?e2).mono ?_
              case e1 => omega
              case e2 => exact hin'
              rintro e w1 ⟨rfl, rfl⟩
              rw [Int.toNat_natCast, HZ.out]
              go_wp2_with fail
              exact ⟨⟨j + 1, by omega, by go_num, by rw [HN.out]⟩, by simp [intOf]; omega⟩
          · have hin' : 7 * (ds.length : Int) ≤ (j : Int) := by omega
            have hin2 : decide ((j : Int) < 7 * (ds.length : Int)) = false := decide_eq_false (by omega)
            have hz := HBY.out j (by omega)
            have HN := Lib.hid (no_bit (zOf false ds) j hz)
            clear hz hin
            go_wp2_with fail
            exact ⟨⟨j + 1, by omega, by go_num, by rw [HN.out]⟩, by simp [intOf]; omega⟩
        · obtain rfl : j = 32 := by omega
          have HT := Lib.hid (top_bit (zOf false ds) 31 (by decide))
          generalize hN : zOf false ds % 2 ^ 32 = N
          have HN := Lib.hid hN
          have hN0 : 0 ≤ N := by rw [← hN]; exact Int.emod_nonneg _ (by decide)
          have ht : bits .and .u64 (N / 2147483648) 1 = zb (zOf false ds) 31 := by rw [← hN]; exact HT.out
          clear hN hlt hj
          go_wp2_with fail
          go_loop [15] (fun i => ∃ j : Nat, i = .int .i64 (32 + (j : Int)) ∧ (32 + j ≤ 7 * ds.length ∨ j = 0) ∧ ∀ i', 32 ≤ i' → i' < 32 + j → zb (zOf false ds) i' = if false = true then zb (zOf false ds) (32 - 1) else 0) (fun i => 200 - (intOf i).toNat)
          case atStart => exact ⟨0, rfl, .inr rfl, fun i' h1 h2 => by omega⟩
          case round =>
            obtain ⟨j, rfl, hj, hall⟩ := hrel
            have HALL := Lib.hid hall
            clear hall
            by_cases hin : 32 + j < 7 * ds.length
            · have hin' : (32 : Int) + (j : Int) < 7 * (ds.length : Int) := by omega
              have HE := Lib.hid (show ((32 : Int) + (j : Int)).toNat = 32 + j by omega)
              have HAV := Lib.hid ht
              clear ht hj
              rcases zb_01 (zOf false ds) (32 + j) with hz | hz
              · have HZ := Lib.hid hz
                clear hz hin
                go_wp2_with fail
                refine (bit_at s at_ _ _ HS.out h0 h1 ?x1 false ds 5 (by decide) H.out ?x2).mono ?_
                case x1 => omega
                case x2 => exact hin'
                rintro e w1 ⟨rfl, rfl⟩
                rw [HE.out, HZ.out]
                go_wp2_with fail
                go_round
                case rel =>
                  refine ⟨j + 1, congrArg (Value.int .i64) (by omega), .inl (by omega), fun i' hi1 hi2 => ?_⟩
                  by_cases hi3 : i' < 32 + j
                  · exact HALL.out i' hi1 hi3
                  · obtain rfl : i' = 32 + j := by omega
                    rw [HZ.out]
                    simp
                case measure => simp [intOf]; omega
              · have HZ := Lib.hid hz
                clear hz hin
                have HQ := Lib.hid (show ¬ roomB 32 false ds = true by
                  intro hq
                  rw [roomB_iff] at hq
                  have h3 := bits_room false ds 32 (by decide) hq (32 + j) (by omega)
                  rw [HZ.out] at h3
                  simp at h3)
                go_wp2_with fail
                refine (bit_at s at_ _ _ HS.out h0 h1 ?y1 false ds 5 (by decide) H.out ?y2).mono ?_
                case y1 => omega
                case y2 => exact hin'
                rintro e w1 ⟨rfl, rfl⟩
                rw [HE.out, HZ.out]
                go_wp2_with fail
                go_ret3
                refine ⟨?_, rfl⟩
                rw [HR.out, if_neg HQ.out]
                rfl
            · have hin' : decide ((32 : Int) + (j : Int) < 7 * (ds.length : Int)) = false := decide_eq_false (by omega)
              have HQ := Lib.hid (show roomB 32 false ds = true by
                rw [roomB_iff]
                have h3 := room_bits false ini last hlast 32 (by decide) (fun i hi1 hi2 => by
                  rw [← HDS.out]
                  exact HALL.out i hi1 (by have := HDL.out; omega))
                rw [← HDS.out] at h3
                exact h3)
              clear hin hj
              go_wp2_with fail
              go_ret3
              refine ⟨?_, rfl⟩
              rw [HR.out, if_pos HQ.out, HN.out]
              exact ret3 rfl (by first | rfl | omega) rfl

set_option maxRecDepth 100000 in
set_option maxHeartbeats 2000000 in
theorem refTake_s32 (s : ByteArray) (at_ : Int) (w : World) (hs : s.size ≤ maxLen) :
    Calls Tryz.prog 208 #[.string s, .int .i64 at_, .int .i64 32, .bool true] w fun e w' =>
      e = .returned (.tuple #[.int .u64 (refA 32 true s.data.toList at_).1, .int .i64 (refA 32 true s.data.toList at_).2.1, .int .i64 (refA 32 true s.data.toList at_).2.2]) ∧ w = w' := by
  have hsz : (s.data.toList.length : Int) = s.size := rfl
  have HS := Lib.hid hs
  by_cases hout : at_ < 0 ∨ (s.size : Int) < at_
  · have HA := Lib.hid (show refA 32 true s.data.toList at_ = (0, 0, 1) by unfold refA; rw [if_pos (by rw [hsz]; exact hout)])
    clear hs hsz
    by_cases h1 : at_ < 0
    · clear hout
      go_enter Tryz.func208, Tryz.ntmps208
      go_wp2_with fail
      go_ret3
      refine ⟨?_, rfl⟩
      rw [HA.out]
      rfl
    · have h2 : (s.size : Int) < at_ := by omega
      clear hout
      go_enter Tryz.func208, Tryz.ntmps208
      go_wp2_with fail
      go_ret3
      refine ⟨?_, rfl⟩
      rw [HA.out]
      rfl
  · have h0 : 0 ≤ at_ := by omega
    have h1 : at_ ≤ s.size := by omega
    have o1 : decide (at_ < 0) = false := decide_eq_false (by omega)
    have o2 : decide ((s.size : Int) < at_) = false := decide_eq_false (by omega)
    have HC := Lib.hid (show ¬ (at_ < 0 ∨ (s.data.toList.length : Int) < at_) by rw [hsz]; exact hout)
    clear hout hs hsz
    cases hsc : scan 5 (s.data.toList.drop at_.toNat) with
    | none =>
      have HA := Lib.hid (show refA 32 true s.data.toList at_ = (0, 0, 2) by unfold refA; rw [if_neg HC.out]; simp [hsc])
      have HK := Lib.hid (show sizeA 5 (s.data.toList.drop at_.toNat) = 0 by unfold sizeA; rw [hsc])
      clear hsc
      go_enter Tryz.func208, Tryz.ntmps208
      go_wp2_with fail
      refine (size_at s at_ 5 _ HS.out h0 h1 (by decide) (by decide) 0 HK.out).mono ?_
      rintro e w1 ⟨rfl, rfl⟩
      go_wp2_with fail
      go_ret3
      refine ⟨?_, rfl⟩
      rw [HA.out]
      rfl
    | some ds =>
      obtain ⟨hl1, hl2, hl3⟩ := scan_len hsc
      have hb : at_ + ds.length ≤ s.size := by
        have e : (s.data.toList.drop at_.toNat).length = s.size - at_.toNat := by rw [List.length_drop]; rfl
        omega
      have hm : (s.size : Int) ≤ 9223372036854775807 := by have := HS.out; unfold maxLen at this; omega
      obtain ⟨ini, last, rest, hds, _, hlast, _, _⟩ := scan_some hsc
      have HDS := Lib.hid hds
      have hdl : ds.length = ini.length + 1 := by rw [hds]; simp
      have HDL := Lib.hid hdl
      have HR := Lib.hid (show refA 32 true s.data.toList at_ = if roomB 32 true ds then (zOf true ds % 2 ^ 32, at_ + ds.length, 0) else (0, 0, 2) by
        unfold refA; rw [if_neg HC.out]; simp only [hsc])
      have HK := Lib.hid (show sizeA 5 (s.data.toList.drop at_.toNat) = ds.length by unfold sizeA; rw [hsc])
      have H := Lib.hid hsc
      clear hsc hds hdl hl3
      obtain ⟨L, hL⟩ : ∃ L, zb (zOf true ds) (7 * (ds.length : Int) - 1).toNat = L := ⟨_, rfl⟩
      have HL := Lib.hid hL
      have HBY := Lib.hid (fun i (hi : 7 * ds.length ≤ i) => (show zb (zOf true ds) i = L by
        have h2 := zOf_beyond true ini last hlast i (by have := HDL.out; omega)
        rw [← HDS.out] at h2
        rw [h2, ← hL]
        have h3 := zOf_bit true ds (7 * (ds.length : Int) - 1).toNat (by omega)
        have h4 : (7 * (ds.length : Int) - 1).toNat / 7 = ini.length := by have := HDL.out; omega
        have h5 : (7 * (ds.length : Int) - 1).toNat % 7 = 6 := by omega
        rw [← h3]
        have h6 : ds[(7 * (ds.length : Int) - 1).toNat / 7]'(by omega) = last := by
          have e := HDS.out
          subst e
          simp only [h4]
          simp
        rw [h6, h5]
        simp only [true_and]
        split <;> omega))
      have hL01 : L = 0 ∨ L = 1 := by rw [← hL]; exact zb_01 _ _
      clear hL
      have hnz : ((ds.length : Int) == 0) = false := by rw [beq_eq_false_iff_ne]; omega
      have hl0 : (0 : Int) ≤ 7 * (ds.length : Int) - 1 := by omega
      go_enter Tryz.func208, Tryz.ntmps208
      go_wp2_with fail
      refine (size_at s at_ 5 _ HS.out h0 h1 (by decide) (by decide) ds.length HK.out).mono ?_
      rintro e w1 ⟨rfl, rfl⟩
      go_wp2_with fail
      refine (bit_at s at_ _ _ HS.out h0 h1 ?c1 true ds 5 (by decide) H.out ?c2).mono ?_
      case c1 => exact hl0
      case c2 => omega
      rintro e w1 ⟨rfl, rfl⟩
      rw [HL.out]
      go_wp2_with fail
      go_loop [12, 14] (fun n i => ∃ j : Nat, j ≤ 32 ∧ i = .int .i64 j ∧ n = .int .u64 (zOf true ds % 2 ^ j)) (fun _ i => 32 - (intOf i).toNat)
      case atStart => exact ⟨0, by omega, rfl, by simp⟩
      case round =>
        obtain ⟨j, hj, rfl, rfl⟩ := hrel
        by_cases hlt : j < 32
        · by_cases hin : j < 7 * ds.length
          · have hin' : (j : Int) < 7 * (ds.length : Int) := by omega
            have hin2 : decide (7 * (ds.length : Int) ≤ (j : Int)) = false := decide_eq_false (by omega)
            rcases zb_01 (zOf true ds) j with hz | hz
            · have HZ := Lib.hid hz
              have HN := Lib.hid (no_bit (zOf true ds) j hz)
              clear hz hin
              go_wp2_with fail
              refine (bit_at s at_ _ _ HS.out h0 h1 ?d1 true ds 5 (by decide) H.out ?d2).mono ?_
              case d1 => omega
              case d2 => exact hin'
              rintro e w1 ⟨rfl, rfl⟩
              rw [Int.toNat_natCast, HZ.out]
              go_wp2_with fail
              exact ⟨⟨j + 1, by omega, by go_num, by rw [HN.out]⟩, by simp [intOf]; omega⟩
            · have HZ := Lib.hid hz
              have HN := Lib.hid (or_bit (zOf true ds) j (by omega) hz)
              clear hz hin
              go_wp2_with fail
              refine (bit_at s at_ _ _ HS.out h0 h1 ?e1 true ds 5 (by decide) H.out ?e2).mono ?_
              case e1 => omega
              case e2 => exact hin'
              rintro e w1 ⟨rfl, rfl⟩
              rw [Int.toNat_natCast, HZ.out]
              go_wp2_with fail
              exact ⟨⟨j + 1, by omega, by go_num, by rw [HN.out]⟩, by simp [intOf]; omega⟩
          · have hin' : 7 * (ds.length : Int) ≤ (j : Int) := by omega
            have hin2 : decide ((j : Int) < 7 * (ds.length : Int)) = false := decide_eq_false (by omega)
            have hz := HBY.out j (by omega)
            rcases hL01 with rfl | rfl
            · have HN := Lib.hid (no_bit (zOf true ds) j hz)
              clear hz hin
              go_wp2_with fail
              exact ⟨⟨j + 1, by omega, by go_num, by rw [HN.out]⟩, by simp [intOf]; omega⟩
            · have HN := Lib.hid (or_bit (zOf true ds) j (by omega) hz)
              clear hz hin
              go_wp2_with fail
              exact ⟨⟨j + 1, by omega, by go_num, by rw [HN.out]⟩, by simp [intOf]; omega⟩
        · obtain rfl : j = 32 := by omega
          have HT := Lib.hid (top_bit (zOf true ds) 31 (by decide))
          generalize hN : zOf true ds % 2 ^ 32 = N
          have HN := Lib.hid hN
          have hN0 : 0 ≤ N := by rw [← hN]; exact Int.emod_nonneg _ (by decide)
          have ht : bits .and .u64 (N / 2147483648) 1 = zb (zOf true ds) 31 := by rw [← hN]; exact HT.out
          clear hN hlt hj
          go_wp2_with fail
          go_loop [15] (fun i => ∃ j : Nat, i = .int .i64 (32 + (j : Int)) ∧ (32 + j ≤ 7 * ds.length ∨ j = 0) ∧ ∀ i', 32 ≤ i' → i' < 32 + j → zb (zOf true ds) i' = if true = true then zb (zOf true ds) (32 - 1) else 0) (fun i => 200 - (intOf i).toNat)
          case atStart => exact ⟨0, rfl, .inr rfl, fun i' h1 h2 => by omega⟩
          case round =>
            obtain ⟨j, rfl, hj, hall⟩ := hrel
            have HALL := Lib.hid hall
            clear hall
            by_cases hin : 32 + j < 7 * ds.length
            · have hin' : (32 : Int) + (j : Int) < 7 * (ds.length : Int) := by omega
              have HE := Lib.hid (show ((32 : Int) + (j : Int)).toNat = 32 + j by omega)
              have HAV := Lib.hid ht
              clear ht hj
              rcases zb_01 (zOf true ds) 31 with hc | hc
              · have ht : bits .and .u64 (N / 2147483648) 1 = 0 := by rw [HAV.out, hc]
                have HCC := Lib.hid hc
                clear hc
                rcases zb_01 (zOf true ds) (32 + j) with hz | hz
                · have HZ := Lib.hid hz
                  clear hz hin
                  go_wp2_with fail
                  refine (bit_at s at_ _ _ HS.out h0 h1 ?x1 true ds 5 (by decide) H.out ?x2).mono ?_
                  case x1 => omega
                  case x2 => exact hin'
                  rintro e w1 ⟨rfl, rfl⟩
                  rw [HE.out, HZ.out]
                  go_wp2_with fail
                  go_round
                  case rel =>
                    refine ⟨j + 1, congrArg (Value.int .i64) (by omega), .inl (by omega), fun i' hi1 hi2 => ?_⟩
                    by_cases hi3 : i' < 32 + j
                    · exact HALL.out i' hi1 hi3
                    · obtain rfl : i' = 32 + j := by omega
                      rw [HZ.out]
                      exact HCC.out.symm
                  case measure => simp [intOf]; omega
                · have HZ := Lib.hid hz
                  clear hz hin
                  have HQ := Lib.hid (show ¬ roomB 32 true ds = true by
                    intro hq
                    rw [roomB_iff] at hq
                    have h3 := bits_room true ds 32 (by decide) hq (32 + j) (by omega)
                    rw [HZ.out] at h3
                    have h4 := HCC.out
                    simp only [if_true, show 32 - 1 = 31 from rfl] at h3
                    rw [h4] at h3
                    omega)
                  go_wp2_with fail
                  refine (bit_at s at_ _ _ HS.out h0 h1 ?y1 true ds 5 (by decide) H.out ?y2).mono ?_
                  case y1 => omega
                  case y2 => exact hin'
                  rintro e w1 ⟨rfl, rfl⟩
                  rw [HE.out, HZ.out]
                  go_wp2_with fail
                  go_ret3
                  refine ⟨?_, rfl⟩
                  rw [HR.out, if_neg HQ.out]
                  rfl
              · have ht : bits .and .u64 (N / 2147483648) 1 = 1 := by rw [HAV.out, hc]
                have HCC := Lib.hid hc
                clear hc
                rcases zb_01 (zOf true ds) (32 + j) with hz | hz
                · have HZ := Lib.hid hz
                  clear hz hin
                  have HQ := Lib.hid (show ¬ roomB 32 true ds = true by
                    intro hq
                    rw [roomB_iff] at hq
                    have h3 := bits_room true ds 32 (by decide) hq (32 + j) (by omega)
                    rw [HZ.out] at h3
                    have h4 := HCC.out
                    simp only [if_true, show 32 - 1 = 31 from rfl] at h3
                    rw [h4] at h3
                    omega)
                  go_wp2_with fail
                  refine (bit_at s at_ _ _ HS.out h0 h1 ?u1 true ds 5 (by decide) H.out ?u2).mono ?_
                  case u1 => omega
                  case u2 => exact hin'
                  rintro e w1 ⟨rfl, rfl⟩
                  rw [HE.out, HZ.out]
                  go_wp2_with fail
                  go_ret3
                  refine ⟨?_, rfl⟩
                  rw [HR.out, if_neg HQ.out]
                  rfl
                · have HZ := Lib.hid hz
                  clear hz hin
                  go_wp2_with fail
                  refine (bit_at s at_ _ _ HS.out h0 h1 ?v1 true ds 5 (by decide) H.out ?v2).mono ?_
                  case v1 => omega
                  case v2 => exact hin'
                  rintro e w1 ⟨rfl, rfl⟩
                  rw [HE.out, HZ.out]
                  go_wp2_with fail
                  go_round
                  case rel =>
                    refine ⟨j + 1, congrArg (Value.int .i64) (by omega), .inl (by omega), fun i' hi1 hi2 => ?_⟩
                    by_cases hi3 : i' < 32 + j
                    · exact HALL.out i' hi1 hi3
                    · obtain rfl : i' = 32 + j := by omega
                      rw [HZ.out]
                      exact HCC.out.symm
                  case measure => simp [intOf]; omega
            · have hin' : decide ((32 : Int) + (j : Int) < 7 * (ds.length : Int)) = false := decide_eq_false (by omega)
              have HQ := Lib.hid (show roomB 32 true ds = true by
                rw [roomB_iff]
                have h3 := room_bits true ini last hlast 32 (by decide) (fun i hi1 hi2 => by
                  rw [← HDS.out]
                  exact HALL.out i hi1 (by have := HDL.out; omega))
                rw [← HDS.out] at h3
                exact h3)
              clear hin hj
              go_wp2_with fail
              go_ret3
              refine ⟨?_, rfl⟩
              rw [HR.out, if_pos HQ.out, HN.out]
              exact ret3 rfl (by first | rfl | omega) rfl

set_option maxRecDepth 100000 in
set_option maxHeartbeats 2000000 in
theorem refTake_u64 (s : ByteArray) (at_ : Int) (w : World) (hs : s.size ≤ maxLen) :
    Calls Tryz.prog 208 #[.string s, .int .i64 at_, .int .i64 64, .bool false] w fun e w' =>
      e = .returned (.tuple #[.int .u64 (refA 64 false s.data.toList at_).1, .int .i64 (refA 64 false s.data.toList at_).2.1, .int .i64 (refA 64 false s.data.toList at_).2.2]) ∧ w = w' := by
  have hsz : (s.data.toList.length : Int) = s.size := rfl
  have HS := Lib.hid hs
  by_cases hout : at_ < 0 ∨ (s.size : Int) < at_
  · have HA := Lib.hid (show refA 64 false s.data.toList at_ = (0, 0, 1) by unfold refA; rw [if_pos (by rw [hsz]; exact hout)])
    clear hs hsz
    by_cases h1 : at_ < 0
    · clear hout
      go_enter Tryz.func208, Tryz.ntmps208
      go_wp2_with fail
      go_ret3
      refine ⟨?_, rfl⟩
      rw [HA.out]
      rfl
    · have h2 : (s.size : Int) < at_ := by omega
      clear hout
      go_enter Tryz.func208, Tryz.ntmps208
      go_wp2_with fail
      go_ret3
      refine ⟨?_, rfl⟩
      rw [HA.out]
      rfl
  · have h0 : 0 ≤ at_ := by omega
    have h1 : at_ ≤ s.size := by omega
    have o1 : decide (at_ < 0) = false := decide_eq_false (by omega)
    have o2 : decide ((s.size : Int) < at_) = false := decide_eq_false (by omega)
    have HC := Lib.hid (show ¬ (at_ < 0 ∨ (s.data.toList.length : Int) < at_) by rw [hsz]; exact hout)
    clear hout hs hsz
    cases hsc : scan 10 (s.data.toList.drop at_.toNat) with
    | none =>
      have HA := Lib.hid (show refA 64 false s.data.toList at_ = (0, 0, 2) by unfold refA; rw [if_neg HC.out]; simp [hsc])
      have HK := Lib.hid (show sizeA 10 (s.data.toList.drop at_.toNat) = 0 by unfold sizeA; rw [hsc])
      clear hsc
      go_enter Tryz.func208, Tryz.ntmps208
      go_wp2_with fail
      refine (size_at s at_ 10 _ HS.out h0 h1 (by decide) (by decide) 0 HK.out).mono ?_
      rintro e w1 ⟨rfl, rfl⟩
      go_wp2_with fail
      go_ret3
      refine ⟨?_, rfl⟩
      rw [HA.out]
      rfl
    | some ds =>
      obtain ⟨hl1, hl2, hl3⟩ := scan_len hsc
      have hb : at_ + ds.length ≤ s.size := by
        have e : (s.data.toList.drop at_.toNat).length = s.size - at_.toNat := by rw [List.length_drop]; rfl
        omega
      have hm : (s.size : Int) ≤ 9223372036854775807 := by have := HS.out; unfold maxLen at this; omega
      obtain ⟨ini, last, rest, hds, _, hlast, _, _⟩ := scan_some hsc
      have HDS := Lib.hid hds
      have hdl : ds.length = ini.length + 1 := by rw [hds]; simp
      have HDL := Lib.hid hdl
      have HR := Lib.hid (show refA 64 false s.data.toList at_ = if roomB 64 false ds then (zOf false ds % 2 ^ 64, at_ + ds.length, 0) else (0, 0, 2) by
        unfold refA; rw [if_neg HC.out]; simp only [hsc])
      have HK := Lib.hid (show sizeA 10 (s.data.toList.drop at_.toNat) = ds.length by unfold sizeA; rw [hsc])
      have H := Lib.hid hsc
      clear hsc hds hdl hl3
      obtain ⟨L, hL⟩ : ∃ L, zb (zOf false ds) (7 * (ds.length : Int) - 1).toNat = L := ⟨_, rfl⟩
      have HL := Lib.hid hL
      have HBY := Lib.hid (fun i (hi : 7 * ds.length ≤ i) => (show zb (zOf false ds) i = 0 by
        have h2 := zOf_beyond false ini last hlast i (by have := HDL.out; omega)
        rw [← HDS.out] at h2
        rw [h2]
        simp))
      have hL01 : L = 0 ∨ L = 1 := by rw [← hL]; exact zb_01 _ _
      clear hL
      have hnz : ((ds.length : Int) == 0) = false := by rw [beq_eq_false_iff_ne]; omega
      have hl0 : (0 : Int) ≤ 7 * (ds.length : Int) - 1 := by omega
      go_enter Tryz.func208, Tryz.ntmps208
      go_wp2_with fail
      refine (size_at s at_ 10 _ HS.out h0 h1 (by decide) (by decide) ds.length HK.out).mono ?_
      rintro e w1 ⟨rfl, rfl⟩
      go_wp2_with fail
      refine (bit_at s at_ _ _ HS.out h0 h1 ?c1 false ds 10 (by decide) H.out ?c2).mono ?_
      case c1 => exact hl0
      case c2 => omega
      rintro e w1 ⟨rfl, rfl⟩
      rw [HL.out]
      go_wp2_with fail
      go_loop [12, 14] (fun n i => ∃ j : Nat, j ≤ 64 ∧ i = .int .i64 j ∧ n = .int .u64 (zOf false ds % 2 ^ j)) (fun _ i => 64 - (intOf i).toNat)
      case atStart => exact ⟨0, by omega, rfl, by simp⟩
      case round =>
        obtain ⟨j, hj, rfl, rfl⟩ := hrel
        by_cases hlt : j < 64
        · by_cases hin : j < 7 * ds.length
          · have hin' : (j : Int) < 7 * (ds.length : Int) := by omega
            have hin2 : decide (7 * (ds.length : Int) ≤ (j : Int)) = false := decide_eq_false (by omega)
            rcases zb_01 (zOf false ds) j with hz | hz
            · have HZ := Lib.hid hz
              have HN := Lib.hid (no_bit (zOf false ds) j hz)
              clear hz hin
              go_wp2_with fail
              refine (bit_at s at_ _ _ HS.out h0 h1 ?d1 false ds 10 (by decide) H.out ?d2).mono ?_
              case d1 => omega
              case d2 => exact hin'
              rintro e w1 ⟨rfl, rfl⟩
              rw [Int.toNat_natCast, HZ.out]
              go_wp2_with fail
              exact ⟨⟨j + 1, by omega, by go_num, by rw [HN.out]⟩, by simp [intOf]; omega⟩
            · have HZ := Lib.hid hz
              have HN := Lib.hid (or_bit (zOf false ds) j (by omega) hz)
              clear hz hin
              go_wp2_with fail
              refine (bit_at s at_ _ _ HS.out h0 h1 ?e1 false ds 10 (by decide) H.out ?e2).mono ?_
              case e1 => omega
              case e2 => exact hin'
              rintro e w1 ⟨rfl, rfl⟩
              rw [Int.toNat_natCast, HZ.out]
              go_wp2_with fail
              exact ⟨⟨j + 1, by omega, by go_num, by rw [HN.out]⟩, by simp [intOf]; omega⟩
          · have hin' : 7 * (ds.length : Int) ≤ (j : Int) := by omega
            have hin2 : decide ((j : Int) < 7 * (ds.length : Int)) = false := decide_eq_false (by omega)
            have hz := HBY.out j (by omega)
            have HN := Lib.hid (no_bit (zOf false ds) j hz)
            clear hz hin
            go_wp2_with fail
            exact ⟨⟨j + 1, by omega, by go_num, by rw [HN.out]⟩, by simp [intOf]; omega⟩
        · obtain rfl : j = 64 := by omega
          have HT := Lib.hid (top_bit (zOf false ds) 63 (by decide))
          generalize hN : zOf false ds % 2 ^ 64 = N
          have HN := Lib.hid hN
          have hN0 : 0 ≤ N := by rw [← hN]; exact Int.emod_nonneg _ (by decide)
          have ht : bits .and .u64 (N / 9223372036854775808) 1 = zb (zOf false ds) 63 := by rw [← hN]; exact HT.out
          clear hN hlt hj
          go_wp2_with fail
          go_loop [15] (fun i => ∃ j : Nat, i = .int .i64 (64 + (j : Int)) ∧ (64 + j ≤ 7 * ds.length ∨ j = 0) ∧ ∀ i', 64 ≤ i' → i' < 64 + j → zb (zOf false ds) i' = if false = true then zb (zOf false ds) (64 - 1) else 0) (fun i => 200 - (intOf i).toNat)
          case atStart => exact ⟨0, rfl, .inr rfl, fun i' h1 h2 => by omega⟩
          case round =>
            obtain ⟨j, rfl, hj, hall⟩ := hrel
            have HALL := Lib.hid hall
            clear hall
            by_cases hin : 64 + j < 7 * ds.length
            · have hin' : (64 : Int) + (j : Int) < 7 * (ds.length : Int) := by omega
              have HE := Lib.hid (show ((64 : Int) + (j : Int)).toNat = 64 + j by omega)
              have HAV := Lib.hid ht
              clear ht hj
              rcases zb_01 (zOf false ds) (64 + j) with hz | hz
              · have HZ := Lib.hid hz
                clear hz hin
                go_wp2_with fail
                refine (bit_at s at_ _ _ HS.out h0 h1 ?x1 false ds 10 (by decide) H.out ?x2).mono ?_
                case x1 => omega
                case x2 => exact hin'
                rintro e w1 ⟨rfl, rfl⟩
                rw [HE.out, HZ.out]
                go_wp2_with fail
                go_round
                case rel =>
                  refine ⟨j + 1, congrArg (Value.int .i64) (by omega), .inl (by omega), fun i' hi1 hi2 => ?_⟩
                  by_cases hi3 : i' < 64 + j
                  · exact HALL.out i' hi1 hi3
                  · obtain rfl : i' = 64 + j := by omega
                    rw [HZ.out]
                    simp
                case measure => simp [intOf]; omega
              · have HZ := Lib.hid hz
                clear hz hin
                have HQ := Lib.hid (show ¬ roomB 64 false ds = true by
                  intro hq
                  rw [roomB_iff] at hq
                  have h3 := bits_room false ds 64 (by decide) hq (64 + j) (by omega)
                  rw [HZ.out] at h3
                  simp at h3)
                go_wp2_with fail
                refine (bit_at s at_ _ _ HS.out h0 h1 ?y1 false ds 10 (by decide) H.out ?y2).mono ?_
                case y1 => omega
                case y2 => exact hin'
                rintro e w1 ⟨rfl, rfl⟩
                rw [HE.out, HZ.out]
                go_wp2_with fail
                go_ret3
                refine ⟨?_, rfl⟩
                rw [HR.out, if_neg HQ.out]
                rfl
            · have hin' : decide ((64 : Int) + (j : Int) < 7 * (ds.length : Int)) = false := decide_eq_false (by omega)
              have HQ := Lib.hid (show roomB 64 false ds = true by
                rw [roomB_iff]
                have h3 := room_bits false ini last hlast 64 (by decide) (fun i hi1 hi2 => by
                  rw [← HDS.out]
                  exact HALL.out i hi1 (by have := HDL.out; omega))
                rw [← HDS.out] at h3
                exact h3)
              clear hin hj
              go_wp2_with fail
              go_ret3
              refine ⟨?_, rfl⟩
              rw [HR.out, if_pos HQ.out, HN.out]
              exact ret3 rfl (by first | rfl | omega) rfl

set_option maxRecDepth 100000 in
set_option maxHeartbeats 2000000 in
theorem refTake_s64 (s : ByteArray) (at_ : Int) (w : World) (hs : s.size ≤ maxLen) :
    Calls Tryz.prog 208 #[.string s, .int .i64 at_, .int .i64 64, .bool true] w fun e w' =>
      e = .returned (.tuple #[.int .u64 (refA 64 true s.data.toList at_).1, .int .i64 (refA 64 true s.data.toList at_).2.1, .int .i64 (refA 64 true s.data.toList at_).2.2]) ∧ w = w' := by
  have hsz : (s.data.toList.length : Int) = s.size := rfl
  have HS := Lib.hid hs
  by_cases hout : at_ < 0 ∨ (s.size : Int) < at_
  · have HA := Lib.hid (show refA 64 true s.data.toList at_ = (0, 0, 1) by unfold refA; rw [if_pos (by rw [hsz]; exact hout)])
    clear hs hsz
    by_cases h1 : at_ < 0
    · clear hout
      go_enter Tryz.func208, Tryz.ntmps208
      go_wp2_with fail
      go_ret3
      refine ⟨?_, rfl⟩
      rw [HA.out]
      rfl
    · have h2 : (s.size : Int) < at_ := by omega
      clear hout
      go_enter Tryz.func208, Tryz.ntmps208
      go_wp2_with fail
      go_ret3
      refine ⟨?_, rfl⟩
      rw [HA.out]
      rfl
  · have h0 : 0 ≤ at_ := by omega
    have h1 : at_ ≤ s.size := by omega
    have o1 : decide (at_ < 0) = false := decide_eq_false (by omega)
    have o2 : decide ((s.size : Int) < at_) = false := decide_eq_false (by omega)
    have HC := Lib.hid (show ¬ (at_ < 0 ∨ (s.data.toList.length : Int) < at_) by rw [hsz]; exact hout)
    clear hout hs hsz
    cases hsc : scan 10 (s.data.toList.drop at_.toNat) with
    | none =>
      have HA := Lib.hid (show refA 64 true s.data.toList at_ = (0, 0, 2) by unfold refA; rw [if_neg HC.out]; simp [hsc])
      have HK := Lib.hid (show sizeA 10 (s.data.toList.drop at_.toNat) = 0 by unfold sizeA; rw [hsc])
      clear hsc
      go_enter Tryz.func208, Tryz.ntmps208
      go_wp2_with fail
      refine (size_at s at_ 10 _ HS.out h0 h1 (by decide) (by decide) 0 HK.out).mono ?_
      rintro e w1 ⟨rfl, rfl⟩
      go_wp2_with fail
      go_ret3
      refine ⟨?_, rfl⟩
      rw [HA.out]
      rfl
    | some ds =>
      obtain ⟨hl1, hl2, hl3⟩ := scan_len hsc
      have hb : at_ + ds.length ≤ s.size := by
        have e : (s.data.toList.drop at_.toNat).length = s.size - at_.toNat := by rw [List.length_drop]; rfl
        omega
      have hm : (s.size : Int) ≤ 9223372036854775807 := by have := HS.out; unfold maxLen at this; omega
      obtain ⟨ini, last, rest, hds, _, hlast, _, _⟩ := scan_some hsc
      have HDS := Lib.hid hds
      have hdl : ds.length = ini.length + 1 := by rw [hds]; simp
      have HDL := Lib.hid hdl
      have HR := Lib.hid (show refA 64 true s.data.toList at_ = if roomB 64 true ds then (zOf true ds % 2 ^ 64, at_ + ds.length, 0) else (0, 0, 2) by
        unfold refA; rw [if_neg HC.out]; simp only [hsc])
      have HK := Lib.hid (show sizeA 10 (s.data.toList.drop at_.toNat) = ds.length by unfold sizeA; rw [hsc])
      have H := Lib.hid hsc
      clear hsc hds hdl hl3
      obtain ⟨L, hL⟩ : ∃ L, zb (zOf true ds) (7 * (ds.length : Int) - 1).toNat = L := ⟨_, rfl⟩
      have HL := Lib.hid hL
      have HBY := Lib.hid (fun i (hi : 7 * ds.length ≤ i) => (show zb (zOf true ds) i = L by
        have h2 := zOf_beyond true ini last hlast i (by have := HDL.out; omega)
        rw [← HDS.out] at h2
        rw [h2, ← hL]
        have h3 := zOf_bit true ds (7 * (ds.length : Int) - 1).toNat (by omega)
        have h4 : (7 * (ds.length : Int) - 1).toNat / 7 = ini.length := by have := HDL.out; omega
        have h5 : (7 * (ds.length : Int) - 1).toNat % 7 = 6 := by omega
        rw [← h3]
        have h6 : ds[(7 * (ds.length : Int) - 1).toNat / 7]'(by omega) = last := by
          have e := HDS.out
          subst e
          simp only [h4]
          simp
        rw [h6, h5]
        simp only [true_and]
        split <;> omega))
      have hL01 : L = 0 ∨ L = 1 := by rw [← hL]; exact zb_01 _ _
      clear hL
      have hnz : ((ds.length : Int) == 0) = false := by rw [beq_eq_false_iff_ne]; omega
      have hl0 : (0 : Int) ≤ 7 * (ds.length : Int) - 1 := by omega
      go_enter Tryz.func208, Tryz.ntmps208
      go_wp2_with fail
      refine (size_at s at_ 10 _ HS.out h0 h1 (by decide) (by decide) ds.length HK.out).mono ?_
      rintro e w1 ⟨rfl, rfl⟩
      go_wp2_with fail
      refine (bit_at s at_ _ _ HS.out h0 h1 ?c1 true ds 10 (by decide) H.out ?c2).mono ?_
      case c1 => exact hl0
      case c2 => omega
      rintro e w1 ⟨rfl, rfl⟩
      rw [HL.out]
      go_wp2_with fail
      go_loop [12, 14] (fun n i => ∃ j : Nat, j ≤ 64 ∧ i = .int .i64 j ∧ n = .int .u64 (zOf true ds % 2 ^ j)) (fun _ i => 64 - (intOf i).toNat)
      case atStart => exact ⟨0, by omega, rfl, by simp⟩
      case round =>
        obtain ⟨j, hj, rfl, rfl⟩ := hrel
        by_cases hlt : j < 64
        · by_cases hin : j < 7 * ds.length
          · have hin' : (j : Int) < 7 * (ds.length : Int) := by omega
            have hin2 : decide (7 * (ds.length : Int) ≤ (j : Int)) = false := decide_eq_false (by omega)
            rcases zb_01 (zOf true ds) j with hz | hz
            · have HZ := Lib.hid hz
              have HN := Lib.hid (no_bit (zOf true ds) j hz)
              clear hz hin
              go_wp2_with fail
              refine (bit_at s at_ _ _ HS.out h0 h1 ?d1 true ds 10 (by decide) H.out ?d2).mono ?_
              case d1 => omega
              case d2 => exact hin'
              rintro e w1 ⟨rfl, rfl⟩
              rw [Int.toNat_natCast, HZ.out]
              go_wp2_with fail
              exact ⟨⟨j + 1, by omega, by go_num, by rw [HN.out]⟩, by simp [intOf]; omega⟩
            · have HZ := Lib.hid hz
              have HN := Lib.hid (or_bit (zOf true ds) j (by omega) hz)
              clear hz hin
              go_wp2_with fail
              refine (bit_at s at_ _ _ HS.out h0 h1 ?e1 true ds 10 (by decide) H.out ?e2).mono ?_
              case e1 => omega
              case e2 => exact hin'
              rintro e w1 ⟨rfl, rfl⟩
              rw [Int.toNat_natCast, HZ.out]
              go_wp2_with fail
              exact ⟨⟨j + 1, by omega, by go_num, by rw [HN.out]⟩, by simp [intOf]; omega⟩
          · have hin' : 7 * (ds.length : Int) ≤ (j : Int) := by omega
            have hin2 : decide ((j : Int) < 7 * (ds.length : Int)) = false := decide_eq_false (by omega)
            have hz := HBY.out j (by omega)
            rcases hL01 with rfl | rfl
            · have HN := Lib.hid (no_bit (zOf true ds) j hz)
              clear hz hin
              go_wp2_with fail
              exact ⟨⟨j + 1, by omega, by go_num, by rw [HN.out]⟩, by simp [intOf]; omega⟩
            · have HN := Lib.hid (or_bit (zOf true ds) j (by omega) hz)
              clear hz hin
              go_wp2_with fail
              exact ⟨⟨j + 1, by omega, by go_num, by rw [HN.out]⟩, by simp [intOf]; omega⟩
        · obtain rfl : j = 64 := by omega
          have HT := Lib.hid (top_bit (zOf true ds) 63 (by decide))
          generalize hN : zOf true ds % 2 ^ 64 = N
          have HN := Lib.hid hN
          have hN0 : 0 ≤ N := by rw [← hN]; exact Int.emod_nonneg _ (by decide)
          have ht : bits .and .u64 (N / 9223372036854775808) 1 = zb (zOf true ds) 63 := by rw [← hN]; exact HT.out
          clear hN hlt hj
          go_wp2_with fail
          go_loop [15] (fun i => ∃ j : Nat, i = .int .i64 (64 + (j : Int)) ∧ (64 + j ≤ 7 * ds.length ∨ j = 0) ∧ ∀ i', 64 ≤ i' → i' < 64 + j → zb (zOf true ds) i' = if true = true then zb (zOf true ds) (64 - 1) else 0) (fun i => 200 - (intOf i).toNat)
          case atStart => exact ⟨0, rfl, .inr rfl, fun i' h1 h2 => by omega⟩
          case round =>
            obtain ⟨j, rfl, hj, hall⟩ := hrel
            have HALL := Lib.hid hall
            clear hall
            by_cases hin : 64 + j < 7 * ds.length
            · have hin' : (64 : Int) + (j : Int) < 7 * (ds.length : Int) := by omega
              have HE := Lib.hid (show ((64 : Int) + (j : Int)).toNat = 64 + j by omega)
              have HAV := Lib.hid ht
              clear ht hj
              rcases zb_01 (zOf true ds) 63 with hc | hc
              · have ht : bits .and .u64 (N / 9223372036854775808) 1 = 0 := by rw [HAV.out, hc]
                have HCC := Lib.hid hc
                clear hc
                rcases zb_01 (zOf true ds) (64 + j) with hz | hz
                · have HZ := Lib.hid hz
                  clear hz hin
                  go_wp2_with fail
                  refine (bit_at s at_ _ _ HS.out h0 h1 ?x1 true ds 10 (by decide) H.out ?x2).mono ?_
                  case x1 => omega
                  case x2 => exact hin'
                  rintro e w1 ⟨rfl, rfl⟩
                  rw [HE.out, HZ.out]
                  go_wp2_with fail
                  go_round
                  case rel =>
                    refine ⟨j + 1, congrArg (Value.int .i64) (by omega), .inl (by omega), fun i' hi1 hi2 => ?_⟩
                    by_cases hi3 : i' < 64 + j
                    · exact HALL.out i' hi1 hi3
                    · obtain rfl : i' = 64 + j := by omega
                      rw [HZ.out]
                      exact HCC.out.symm
                  case measure => simp [intOf]; omega
                · have HZ := Lib.hid hz
                  clear hz hin
                  have HQ := Lib.hid (show ¬ roomB 64 true ds = true by
                    intro hq
                    rw [roomB_iff] at hq
                    have h3 := bits_room true ds 64 (by decide) hq (64 + j) (by omega)
                    rw [HZ.out] at h3
                    have h4 := HCC.out
                    simp only [if_true, show 64 - 1 = 63 from rfl] at h3
                    rw [h4] at h3
                    omega)
                  go_wp2_with fail
                  refine (bit_at s at_ _ _ HS.out h0 h1 ?y1 true ds 10 (by decide) H.out ?y2).mono ?_
                  case y1 => omega
                  case y2 => exact hin'
                  rintro e w1 ⟨rfl, rfl⟩
                  rw [HE.out, HZ.out]
                  go_wp2_with fail
                  go_ret3
                  refine ⟨?_, rfl⟩
                  rw [HR.out, if_neg HQ.out]
                  rfl
              · have ht : bits .and .u64 (N / 9223372036854775808) 1 = 1 := by rw [HAV.out, hc]
                have HCC := Lib.hid hc
                clear hc
                rcases zb_01 (zOf true ds) (64 + j) with hz | hz
                · have HZ := Lib.hid hz
                  clear hz hin
                  have HQ := Lib.hid (show ¬ roomB 64 true ds = true by
                    intro hq
                    rw [roomB_iff] at hq
                    have h3 := bits_room true ds 64 (by decide) hq (64 + j) (by omega)
                    rw [HZ.out] at h3
                    have h4 := HCC.out
                    simp only [if_true, show 64 - 1 = 63 from rfl] at h3
                    rw [h4] at h3
                    omega)
                  go_wp2_with fail
                  refine (bit_at s at_ _ _ HS.out h0 h1 ?u1 true ds 10 (by decide) H.out ?u2).mono ?_
                  case u1 => omega
                  case u2 => exact hin'
                  rintro e w1 ⟨rfl, rfl⟩
                  rw [HE.out, HZ.out]
                  go_wp2_with fail
                  go_ret3
                  refine ⟨?_, rfl⟩
                  rw [HR.out, if_neg HQ.out]
                  rfl
                · have HZ := Lib.hid hz
                  clear hz hin
                  go_wp2_with fail
                  refine (bit_at s at_ _ _ HS.out h0 h1 ?v1 true ds 10 (by decide) H.out ?v2).mono ?_
                  case v1 => omega
                  case v2 => exact hin'
                  rintro e w1 ⟨rfl, rfl⟩
                  rw [HE.out, HZ.out]
                  go_wp2_with fail
                  go_round
                  case rel =>
                    refine ⟨j + 1, congrArg (Value.int .i64) (by omega), .inl (by omega), fun i' hi1 hi2 => ?_⟩
                    by_cases hi3 : i' < 64 + j
                    · exact HALL.out i' hi1 hi3
                    · obtain rfl : i' = 64 + j := by omega
                      rw [HZ.out]
                      exact HCC.out.symm
                  case measure => simp [intOf]; omega
            · have hin' : decide ((64 : Int) + (j : Int) < 7 * (ds.length : Int)) = false := decide_eq_false (by omega)
              have HQ := Lib.hid (show roomB 64 true ds = true by
                rw [roomB_iff]
                have h3 := room_bits true ini last hlast 64 (by decide) (fun i hi1 hi2 => by
                  rw [← HDS.out]
                  exact HALL.out i hi1 (by have := HDL.out; omega))
                rw [← HDS.out] at h3
                exact h3)
              clear hin hj
              go_wp2_with fail
              go_ret3
              refine ⟨?_, rfl⟩
              rw [HR.out, if_pos HQ.out, HN.out]
              exact ret3 rfl (by first | rfl | omega) rfl

theorem refA_u (bits : Nat) (l : List UInt8) (at_ : Int) : refA bits false l at_ = ansU bits l at_ := by
  unfold refA ansU readU
  split
  · rfl
  · split
    · rename_i h; rw [h]
    · rename_i ds h
      rw [h]
      simp only [roomB, rdU, if_neg (show ¬ (false = true) by decide)]
      by_cases hv : val ds < 2 ^ bits
      · have hz : zOf false ds % 2 ^ bits = (val ds : Int) := by
          have hc : ((2 ^ bits : Nat) : Int) = 2 ^ bits := by rw [Int.natCast_pow]; rfl
          show (val ds : Int) % 2 ^ bits = _
          rw [← hc, ← Int.natCast_emod, Nat.mod_eq_of_lt hv]
        simp [hv, hz]
      · simp [hv]

theorem ansU_range (bits : Nat) (l : List UInt8) (at_ : Int) : 0 ≤ (ansU bits l at_).1 ∧ (ansU bits l at_).1 < 2 ^ bits := by
  have hp := pow_pos2 bits
  unfold ansU readU
  split
  · exact ⟨by simp, by simpa using hp⟩
  · split
    · exact ⟨by simp, by simpa using hp⟩
    · rename_i v n h
      split at h
      · cases h
      · rename_i ds _
        unfold rdU at h
        split at h
        · rename_i hv
          simp only [Option.map_some, Option.some.injEq, Prod.mk.injEq] at h
          have hc : ((2 ^ bits : Nat) : Int) = 2 ^ bits := by rw [Int.natCast_pow]; rfl
          exact ⟨Int.natCast_nonneg _, by simp only []; omega⟩
        · cases h

theorem refA_s (bits : Nat) (l : List UInt8) (at_ : Int) : (refA bits true l at_).2 = (ansS bits l at_).2 ∧ (refA bits true l at_).1 = (ansS bits l at_).1 % 2 ^ bits ∧ -(2 ^ (bits - 1) : Int) ≤ (ansS bits l at_).1 ∧ (ansS bits l at_).1 < (2 ^ (bits - 1) : Int) := by
  have hp := pow_pos2 (bits - 1)
  unfold refA ansS readS
  split
  · exact ⟨rfl, by simp, by simp; omega, by simpa using hp⟩
  · split
    · rename_i h
      rw [h]
      exact ⟨rfl, by simp, by simp; omega, by simpa using hp⟩
    · rename_i ds h
      rw [h]
      simp only [roomB, rdS, if_true]
      by_cases hv : -(2 ^ (bits - 1) : Int) ≤ sval ds ∧ sval ds < (2 ^ (bits - 1) : Int)
      · simp only [if_pos hv, Option.isSome_some, if_true, Option.map_some]
        exact ⟨trivial, rfl, hv⟩
      · simp only [if_neg hv, Option.isSome_none, Bool.false_eq_true, if_false, Option.map_none]
        exact ⟨trivial, by simp, by omega, hp⟩

set_option maxRecDepth 100000 in
set_option maxHeartbeats 400000 in
theorem refU32_any (s : ByteArray) (at_ : Int) (w : World) (hs : s.size ≤ maxLen) :
    Calls Tryz.prog 150 #[.string s, .int .i64 at_] w fun e w' =>
      e = .returned (.tuple #[.int .u32 (ansU 32 s.data.toList at_).1, .int .i64 (ansU 32 s.data.toList at_).2.1, .int .i64 (ansU 32 s.data.toList at_).2.2]) ∧ w = w' := by
  have HT0 := fun w => refTake_u32 s at_ w hs
  simp only [refA_u] at HT0
  have HT := Lib.hid HT0
  have hr := ansU_range 32 s.data.toList at_
  have hw : IntKind.u32.wrap (ansU 32 s.data.toList at_).1 = (ansU 32 s.data.toList at_).1 := by rw [IntKind.wrap_u32]; omega
  clear hr
  clear HT0 hs
  go_enter Tryz.func150, Tryz.ntmps150
  go_wp2_with (go_at_call 208; refine (HT.out _).mono ?_; rintro e w' ⟨rfl, rfl⟩)
  go_ret3
  exact ⟨rfl, rfl⟩

set_option maxRecDepth 100000 in
set_option maxHeartbeats 400000 in
theorem refS32_any (s : ByteArray) (at_ : Int) (w : World) (hs : s.size ≤ maxLen) :
    Calls Tryz.prog 212 #[.string s, .int .i64 at_] w fun e w' =>
      e = .returned (.tuple #[.int .i32 (ansS 32 s.data.toList at_).1, .int .i64 (ansS 32 s.data.toList at_).2.1, .int .i64 (ansS 32 s.data.toList at_).2.2]) ∧ w = w' := by
  have HT0 := fun w => refTake_s32 s at_ w hs
  have HT := Lib.hid HT0
  have hr := refA_s 32 s.data.toList at_
  have HW := Lib.hid (show wrap32 (IntKind.u32.wrap (refA 32 true s.data.toList at_).1) = (ansS 32 s.data.toList at_).1 by
    rw [hr.2.1, IntKind.wrap_u32]
    have h3 := hr.2.2
    unfold wrap32
    omega)
  have H2 := Lib.hid hr.1
  clear hr
  clear HT0 hs
  go_enter Tryz.func212, Tryz.ntmps212
  go_wp2_with (go_at_call 208; refine (HT.out _).mono ?_; rintro e w' ⟨rfl, rfl⟩)
  go_ret3
  refine ⟨?_, rfl⟩
  rw [← HW.out, ← H2.out]
  first | rfl | exact ret3 (by first | rfl | simp) rfl rfl

set_option maxRecDepth 100000 in
set_option maxHeartbeats 400000 in
theorem refS64_any (s : ByteArray) (at_ : Int) (w : World) (hs : s.size ≤ maxLen) :
    Calls Tryz.prog 211 #[.string s, .int .i64 at_] w fun e w' =>
      e = .returned (.tuple #[.int .i64 (ansS 64 s.data.toList at_).1, .int .i64 (ansS 64 s.data.toList at_).2.1, .int .i64 (ansS 64 s.data.toList at_).2.2]) ∧ w = w' := by
  have HT0 := fun w => refTake_s64 s at_ w hs
  have HT := Lib.hid HT0
  have hr := refA_s 64 s.data.toList at_
  have HW := Lib.hid (show wrap64 (refA 64 true s.data.toList at_).1 = (ansS 64 s.data.toList at_).1 by
    rw [hr.2.1]
    have h3 := hr.2.2
    unfold wrap64
    omega)
  have H2 := Lib.hid hr.1
  clear hr
  clear HT0 hs
  go_enter Tryz.func211, Tryz.ntmps211
  go_wp2_with (go_at_call 208; refine (HT.out _).mono ?_; rintro e w' ⟨rfl, rfl⟩)
  go_ret3
  refine ⟨?_, rfl⟩
  rw [← HW.out, ← H2.out]
  first | rfl | exact ret3 (by first | rfl | simp) rfl rfl
end Go.Proofs.YteidhccnbfikcaaGreatDoor.Leb
