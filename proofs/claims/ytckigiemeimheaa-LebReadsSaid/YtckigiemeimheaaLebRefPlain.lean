/-
  The bits of a number, in plain Lean: what the document's own way of reading LEB128 comes to. No condition beyond what each theorem names.
-/
import Derived.Test.YtckigiemeimheaaLebLaws
namespace Go.Proofs.Ytckigiemeimheaa.Leb
set_option linter.unusedVariables false

/-- bit i of a number -/
def zb (Z : Int) (i : Nat) : Int := Z / 2 ^ i % 2

theorem zb_01 (Z : Int) (i : Nat) : zb Z i = 0 ∨ zb Z i = 1 := by unfold zb; omega
theorem pow_pos2 (i : Nat) : (0 : Int) < 2 ^ i := Int.pow_pos (by decide)
theorem pow_succ2 (i : Nat) : (2 : Int) ^ (i + 1) = 2 * 2 ^ i := by rw [Int.pow_succ]; omega

theorem low_step (Z : Int) (i : Nat) : Z % 2 ^ (i + 1) = Z % 2 ^ i + 2 ^ i * zb Z i := by
  unfold zb
  have hp := pow_pos2 i
  have h1 : Z / 2 ^ (i + 1) = Z / 2 ^ i / 2 := by rw [pow_succ2, Int.mul_comm, Int.ediv_ediv_of_nonneg (Int.le_of_lt hp)]
  have h2 := Int.mul_ediv_add_emod Z (2 ^ i)
  have h3 := Int.mul_ediv_add_emod Z (2 ^ (i + 1))
  have h4 := Int.mul_ediv_add_emod (Z / 2 ^ i) 2
  rw [h1, pow_succ2] at h3
  rw [pow_succ2]
  generalize Z / 2 ^ i = q at *
  generalize hr : q % 2 = r at *
  have h5 : 2 ^ i * q = 2 ^ i * (2 * (q / 2)) + 2 ^ i * r := by rw [← Int.mul_add, h4]
  have h6 : 2 * 2 ^ i * (q / 2) = 2 ^ i * (2 * (q / 2)) := by rw [Int.mul_comm 2, Int.mul_assoc]
  omega

/-- a number all of whose bits, up to its highest, are the same -/
theorem all_same (m : Nat) (Y c : Int) (h1 : -(2 ^ m : Int) ≤ Y) (h2 : Y < (2 ^ m : Int)) (h3 : ∀ j, j ≤ m → zb Y j = c) : Y = -c := by
  induction m generalizing Y with
  | zero =>
    have := h3 0 (Nat.le_refl _)
    simp [zb] at this h1 h2
    omega
  | succ m ih =>
    have e := pow_succ2 m
    have hy := ih (Y / 2) (by omega) (by omega) (fun j hj => by
      have := h3 (j + 1) (by omega)
      unfold zb at this ⊢
      rw [Int.ediv_ediv_of_nonneg (by decide), ← pow_succ2]
      exact this)
    have h0 := h3 0 (by omega)
    simp [zb] at h0
    omega

theorem zb_shift (Z : Int) (b j : Nat) : zb (Z / 2 ^ b) j = zb Z (b + j) := by
  unfold zb
  rw [Int.ediv_ediv_of_nonneg (Int.le_of_lt (pow_pos2 b)), ← Int.pow_add]

set_option maxRecDepth 100000 in
theorem byte_bits : ∀ n : Nat, n < 256 → ∀ i, i < 7 → (n % 128 / 2 ^ i) % 2 = n / 2 ^ i % 2 := by decide

/-- a bit of the bytes is that bit of the number -/
theorem val_bit (ds : List UInt8) (i : Nat) (h : i / 7 < ds.length) : (ds[i / 7].toNat / 2 ^ (i % 7)) % 2 = val ds / 2 ^ i % 2 := by
  induction ds generalizing i with
  | nil => simp at h
  | cons b l ih =>
    simp only [val]
    rcases Nat.lt_or_ge i 7 with hi | hi
    · have e0 : i / 7 = 0 := Nat.div_eq_of_lt hi
      have e1 : i % 7 = i := Nat.mod_eq_of_lt hi
      have hb := byte_bits b.toNat b.toNat_lt i hi
      simp only [e0, e1, List.getElem_cons_zero]
      rw [← hb]
      obtain ⟨c, hc⟩ : ∃ c, 128 = 2 ^ i * (2 * c) := by
        rcases (show i = 0 ∨ i = 1 ∨ i = 2 ∨ i = 3 ∨ i = 4 ∨ i = 5 ∨ i = 6 by omega) with rfl | rfl | rfl | rfl | rfl | rfl | rfl
        · exact ⟨64, rfl⟩
        · exact ⟨32, rfl⟩
        · exact ⟨16, rfl⟩
        · exact ⟨8, rfl⟩
        · exact ⟨4, rfl⟩
        · exact ⟨2, rfl⟩
        · exact ⟨1, rfl⟩
      have h128 : 128 * val l = 2 ^ i * (2 * (c * val l)) := by
        conv => lhs; rw [hc]
        rw [Nat.mul_assoc, Nat.mul_assoc]
      rw [h128, Nat.add_mul_div_left _ _ (Nat.pow_pos (by decide)), Nat.add_mul_mod_self_left]
    · have hl : (i - 7) / 7 < l.length := by simp at h; omega
      have := ih (i - 7) hl
      have e0 : i / 7 = (i - 7) / 7 + 1 := by omega
      have e1 : i % 7 = (i - 7) % 7 := by omega
      simp only [e0, List.getElem_cons_succ, e1]
      rw [this]
      have e2 : (2 : Nat) ^ i = 128 * 2 ^ (i - 7) := by
        conv => lhs; rw [show i = 7 + (i - 7) by omega, Nat.pow_add]
      rw [e2, ← Nat.div_div_eq_div_mul, Nat.add_mul_div_left _ _ (by decide), Nat.div_eq_of_lt (Nat.mod_lt _ (by decide)), Nat.zero_add]

/-- the number that is read: without a sign, with one -/
def zOf (sign : Bool) (ds : List UInt8) : Int := if sign then sval ds else (val ds : Int)

theorem cast_bit (v i : Nat) : zb (v : Int) i = ((v / 2 ^ i % 2 : Nat) : Int) := by
  unfold zb
  rw [Int.natCast_emod, Int.natCast_ediv, Int.natCast_pow]
  rfl

theorem sval_cases (ds : List UInt8) : sval ds = (val ds : Int) ∧ (lastB ds).toNat % 128 < 64 ∨ sval ds = (val ds : Int) - 2 ^ (7 * ds.length) ∧ 64 ≤ (lastB ds).toNat % 128 := by
  unfold sval
  split
  · rename_i h; exact .inr ⟨rfl, h⟩
  · rename_i h
    refine .inl ⟨by omega, ?_⟩
    have : ¬ 64 ≤ (lastB ds).toNat % 128 := h
    omega

theorem zOf_bit (sign : Bool) (ds : List UInt8) (i : Nat) (h : i / 7 < ds.length) : ((ds[i / 7].toNat / 2 ^ (i % 7) % 2 : Nat) : Int) = zb (zOf sign ds) i := by
  rw [val_bit ds i h, ← cast_bit]
  cases sign
  · rfl
  · show _ = zb (sval ds) i
    rcases sval_cases ds with ⟨e, _⟩ | ⟨e, _⟩
    · rw [e]
    · rw [e]
      unfold zb
      have hle : i < 7 * ds.length := by omega
      have e2 : (2 : Int) ^ (7 * ds.length) = 2 ^ i * (2 * 2 ^ (7 * ds.length - i - 1)) := by
        rw [← pow_succ2, ← Int.pow_add]
        congr 1
        omega
      rw [e2, Int.sub_eq_add_neg, ← Int.mul_neg, Int.add_mul_ediv_left _ _ (by have := pow_pos2 i; omega)]
      omega

theorem sval_room (ini : List UInt8) (last : UInt8) (h : last.toNat < 128) :
    -(2 ^ (7 * ini.length + 6) : Int) ≤ sval (ini ++ [last]) ∧ sval (ini ++ [last]) < (2 ^ (7 * ini.length + 6) : Int) := short_s ini last h

/-- behind the last byte -/
theorem zOf_beyond (sign : Bool) (ini : List UInt8) (last : UInt8) (h : last.toNat < 128) (i : Nat) (hi : 7 * (ini.length + 1) ≤ i) :
    zb (zOf sign (ini ++ [last])) i = if sign = true ∧ 64 ≤ last.toNat then 1 else 0 := by
  have hl : (ini ++ [last]).length = ini.length + 1 := by simp
  have hv := val_lt (ini ++ [last])
  rw [hl] at hv
  have hp : (2 : Nat) ^ (7 * (ini.length + 1)) ≤ 2 ^ i := Nat.pow_le_pow_right (by decide) hi
  have hpi : ((2 ^ i : Nat) : Int) = 2 ^ i := by rw [Int.natCast_pow]; rfl
  have hpk : ((2 ^ (7 * (ini.length + 1)) : Nat) : Int) = 2 ^ (7 * (ini.length + 1)) := by rw [Int.natCast_pow]; rfl
  have hz : zb (val (ini ++ [last]) : Int) i = 0 := by
    unfold zb
    rw [Int.ediv_eq_zero_of_lt (Int.natCast_nonneg _) (by omega)]
    rfl
  cases sign
  · simp only [zOf, if_neg (show ¬ (false = true) by decide)]
    rw [hz]
    simp
  · simp only [zOf, if_true, true_and]
    rcases sval_cases (ini ++ [last]) with ⟨e, e2⟩ | ⟨e, e2⟩
    · rw [lastB_snoc, Nat.mod_eq_of_lt h] at e2
      rw [if_neg (by omega), e, hz]
    · rw [lastB_snoc, Nat.mod_eq_of_lt h] at e2
      rw [if_pos e2, e, hl]
      unfold zb
      have hneg : ((val (ini ++ [last]) : Int) - 2 ^ (7 * (ini.length + 1))) / 2 ^ i = -1 := by
        have h1 := pow_pos2 i
        rw [Int.ediv_eq_iff_of_pos h1] <;> omega
      rw [hneg]
      rfl

/-- the bits above are as they must be just if there is room -/
theorem room_bits (sign : Bool) (ini : List UInt8) (last : UInt8) (h : last.toNat < 128) (bits : Nat) (hb : 0 < bits)
    (hall : ∀ i, bits ≤ i → i < 7 * (ini.length + 1) → zb (zOf sign (ini ++ [last])) i = if sign = true then zb (zOf sign (ini ++ [last])) (bits - 1) else 0) :
    if sign = true then -(2 ^ (bits - 1) : Int) ≤ sval (ini ++ [last]) ∧ sval (ini ++ [last]) < (2 ^ (bits - 1) : Int) else val (ini ++ [last]) < 2 ^ bits := by
  have hl : (ini ++ [last]).length = ini.length + 1 := by simp
  have hv := val_lt (ini ++ [last])
  rw [hl] at hv
  cases sign
  · simp only [if_neg (show ¬ (false = true) by decide)] at *
    rcases Nat.lt_or_ge bits (7 * (ini.length + 1)) with hk | hk
    · have hz : zOf false (ini ++ [last]) = (val (ini ++ [last]) : Int) := rfl
      rw [hz] at hall
      have hpb : ((2 ^ bits : Nat) : Int) = 2 ^ bits := by rw [Int.natCast_pow]; rfl
      obtain ⟨m, hm⟩ : ∃ m, 7 * (ini.length + 1) = bits + m := ⟨7 * (ini.length + 1) - bits, by omega⟩
      rw [hm, Nat.pow_add] at hv
      have hy : ((val (ini ++ [last]) : Int) / 2 ^ bits) = -0 := by
        have hd : (val (ini ++ [last]) : Int) / 2 ^ bits = ((val (ini ++ [last]) / 2 ^ bits : Nat) : Int) := by rw [Int.natCast_ediv, hpb]
        have hlt : val (ini ++ [last]) / 2 ^ bits < 2 ^ m := Nat.div_lt_of_lt_mul hv
        have hpm : ((2 ^ m : Nat) : Int) = 2 ^ m := by rw [Int.natCast_pow]; rfl
        refine all_same m _ 0 (by have := pow_pos2 m; rw [hd]; have h0 := Int.natCast_nonneg (val (ini ++ [last]) / 2 ^ bits); omega) (by rw [hd]; omega) (fun j hj => ?_)
        rw [zb_shift]
        rcases Nat.lt_or_ge j m with hjm | hjm
        · exact hall _ (by omega) (by omega)
        · have := zOf_beyond false ini last h (bits + j) (by omega)
          rw [hz] at this
          simpa using this
      have hd2 := Int.mul_ediv_add_emod (val (ini ++ [last]) : Int) (2 ^ bits)
      have := Int.emod_lt_of_pos (val (ini ++ [last]) : Int) (pow_pos2 bits)
      rw [hy] at hd2
      omega
    · have : (2 : Nat) ^ (7 * (ini.length + 1)) ≤ 2 ^ bits := Nat.pow_le_pow_right (by decide) hk
      omega
  · simp only [if_true] at *
    have hr := short_s ini last h
    have hz : zOf true (ini ++ [last]) = sval (ini ++ [last]) := rfl
    rw [hz] at hall
    generalize sval (ini ++ [last]) = Z at *
    rcases Nat.lt_or_ge (bits - 1) (7 * ini.length + 6) with hk | hk
    · obtain ⟨m, hm⟩ : ∃ m, 7 * ini.length + 6 = bits - 1 + m := ⟨7 * ini.length + 6 - (bits - 1), by omega⟩
      rw [hm, Int.pow_add] at hr
      have hp := pow_pos2 (bits - 1)
      have hy : Z / 2 ^ (bits - 1) = -(zb Z (bits - 1)) := by
        refine all_same m _ _ ?_ ?_ (fun j hj => ?_)
        · apply Int.le_ediv_of_mul_le hp
          rw [Int.neg_mul, Int.mul_comm]
          exact hr.1
        · apply Int.ediv_lt_of_lt_mul hp
          rw [Int.mul_comm]
          exact hr.2
        · rw [zb_shift]
          rcases Nat.eq_zero_or_pos j with rfl | hj0
          · rfl
          · exact hall _ (by omega) (by omega)
      have hd2 := Int.mul_ediv_add_emod Z (2 ^ (bits - 1))
      have h1 := Int.emod_lt_of_pos Z hp
      have h2 := Int.emod_nonneg Z (show (2 : Int) ^ (bits - 1) ≠ 0 by omega)
      rw [hy] at hd2
      rcases zb_01 Z (bits - 1) with h3 | h3 <;> rw [h3] at hd2 <;> omega
    · have : (2 : Int) ^ (7 * ini.length + 6) ≤ 2 ^ (bits - 1) := by exact_mod_cast Nat.pow_le_pow_right (show 0 < 2 by decide) hk
      omega

/-- and if there is room they are -/
theorem bits_room (sign : Bool) (ds : List UInt8) (bits : Nat) (hb : 0 < bits)
    (h : if sign = true then -(2 ^ (bits - 1) : Int) ≤ sval ds ∧ sval ds < (2 ^ (bits - 1) : Int) else val ds < 2 ^ bits) (i : Nat) (hi : bits ≤ i) :
    zb (zOf sign ds) i = if sign = true then zb (zOf sign ds) (bits - 1) else 0 := by
  cases sign
  · simp only [if_neg (show ¬ (false = true) by decide)] at *
    have hz : zOf false ds = (val ds : Int) := rfl
    have hp : (2 : Nat) ^ bits ≤ 2 ^ i := Nat.pow_le_pow_right (by decide) hi
    have hpi : ((2 ^ i : Nat) : Int) = 2 ^ i := by rw [Int.natCast_pow]; rfl
    rw [hz]
    unfold zb
    rw [Int.ediv_eq_zero_of_lt (Int.natCast_nonneg _) (by omega)]
    rfl
  · simp only [if_true] at *
    have hz : zOf true ds = sval ds := rfl
    rw [hz]
    generalize sval ds = Z at *
    have key : ∀ j, bits - 1 ≤ j → Z / 2 ^ j = if 0 ≤ Z then 0 else -1 := by
      intro j hj
      have hp : (2 : Int) ^ (bits - 1) ≤ 2 ^ j := by exact_mod_cast Nat.pow_le_pow_right (show 0 < 2 by decide) hj
      have h1 := pow_pos2 j
      split
      · exact Int.ediv_eq_zero_of_lt (by omega) (by omega)
      · rw [Int.ediv_eq_iff_of_pos h1] <;> omega
    unfold zb
    rw [key i (by omega), key (bits - 1) (Nat.le_refl _)]
end Go.Proofs.Ytckigiemeimheaa.Leb
