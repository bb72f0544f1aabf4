/-
  What the operations on bits that the LEB code makes come to, in numbers. No condition beyond what each theorem names.
-/
import Derived.Test.YtckigiemeimheaaLebPlain
import Derived.WalkKit
namespace Go.Proofs.Ytckigiemeimheaa.Leb
open Go.RowKit

def mod64 (n : Nat) : Nat := n % 18446744073709551616

theorem byte_and127 (b : UInt8) : bits .and .u8 (b.toNat : Int) 127 = ((b.toNat % 128 : Nat) : Int) := by
  have hb := b.toNat_lt
  have := bits_mask .u8 8 (by decide) wraps_u8 7 (by decide) (b.toNat : Int) (by omega) (by omega)
  simpa using this

/-- one byte more -/
theorem raw_step (t : List UInt8) (b : UInt8) (k : Nat) (ht : t.length = k) (hk : k ≤ 9) :
    bits .or .u64 ((mod64 (val t) : Nat) : Int) (IntKind.u64.wrap (IntKind.u64.wrap (bits .and .u8 (b.toNat : Int) 127) * 2 ^ (7 * k))) = ((mod64 (val (t ++ [b])) : Nat) : Int) := by
  subst ht
  rw [byte_and127, val_snoc]
  have hv := val_lt t
  generalize val t = N at *
  have hx : b.toNat % 128 < 128 := Nat.mod_lt _ (by decide)
  generalize b.toNat % 128 = x at *
  have h63 : (2 : Nat) ^ (7 * t.length) ≤ 2 ^ 63 := Nat.pow_le_pow_right (by decide) (by omega)
  have hN : mod64 N = N := by unfold mod64; omega
  have e1 : IntKind.u64.wrap ((x : Nat) : Int) = x := by rw [IntKind.wrap_u64]; omega
  have e2 : IntKind.u64.wrap ((x : Int) * 2 ^ (7 * t.length)) = ((x * 2 ^ (7 * t.length) % 18446744073709551616 : Nat) : Int) := by
    have e : (x : Int) * 2 ^ (7 * t.length) = ((x * 2 ^ (7 * t.length) : Nat) : Int) := by rw [Int.natCast_mul, Int.natCast_pow]; rfl
    rw [e, IntKind.wrap_u64]; omega
  rw [hN, e1, e2, bits_or_u64_nat _ _ (by omega) (Nat.mod_lt _ (by decide))]
  have e3 : (18446744073709551616 : Nat) = 2 ^ (7 * t.length) * 2 ^ (64 - 7 * t.length) := by rw [← Nat.pow_add, show 7 * t.length + (64 - 7 * t.length) = 64 by omega]
  have e4 : x * 2 ^ (7 * t.length) % 18446744073709551616 = 2 ^ (7 * t.length) * (x % 2 ^ (64 - 7 * t.length)) := by
    rw [e3, Nat.mul_comm x, Nat.mul_mod_mul_left]
  have hy : x % 2 ^ (64 - 7 * t.length) < 2 ^ (64 - 7 * t.length) := Nat.mod_lt _ (Nat.pow_pos (by decide))
  have e5 : (N + x * 2 ^ (7 * t.length)) % 18446744073709551616 = N + 2 ^ (7 * t.length) * (x % 2 ^ (64 - 7 * t.length)) := by
    rw [← e4]
    have hlt : N + x * 2 ^ (7 * t.length) % 18446744073709551616 < 18446744073709551616 := by
      rw [e4]
      calc N + 2 ^ (7 * t.length) * (x % 2 ^ (64 - 7 * t.length)) < 2 ^ (7 * t.length) + 2 ^ (7 * t.length) * (x % 2 ^ (64 - 7 * t.length)) := by omega
        _ = 2 ^ (7 * t.length) * (x % 2 ^ (64 - 7 * t.length) + 1) := by rw [Nat.mul_add]; omega
        _ ≤ 2 ^ (7 * t.length) * 2 ^ (64 - 7 * t.length) := Nat.mul_le_mul_left _ hy
        _ = 18446744073709551616 := e3.symm
    omega
  unfold mod64
  rw [e4, e5]
  congr 1
  rw [Nat.or_comm, ← Nat.two_pow_add_eq_or_of_lt (by omega), Nat.add_comm]

theorem byte_or128 (x : Nat) (hx : x < 256) : bits .or .u8 (x : Int) 128 = ((x % 128 + 128 : Nat) : Int) := by
  have h := (bits_nat .u8 8 (by decide) wraps_u8 x 128 (by omega) (by decide)).2
  have e : ((128 : Nat) : Int) = 128 := rfl
  rw [e] at h
  rw [h]
  congr 1
  have h2 : x = 128 * (x / 128) + x % 128 := by omega
  have hlt : x % 128 < 2 ^ 7 := Nat.mod_lt _ (by decide)
  have h3 : ∀ q r : Nat, q < 2 → r < 2 ^ 7 → (2 ^ 7 * q + r) ||| 128 = r + 128 := by
    intro q r hq hr
    rw [Nat.two_pow_add_eq_or_of_lt hr, Nat.or_assoc, Nat.or_comm r, ← Nat.or_assoc]
    have : 2 ^ 7 * q ||| 128 = 2 ^ 7 * 1 := by
      rcases (show q = 0 ∨ q = 1 by omega) with rfl | rfl <;> rfl
    rw [this, ← Nat.two_pow_add_eq_or_of_lt hr]
    omega
  have := h3 (x / 128) (x % 128) (by omega) hlt
  rw [show 2 ^ 7 * (x / 128) + x % 128 = x by omega] at this
  exact this

theorem or128 (rem : Nat) : bits .or .u8 ((rem : Int) % 256) 128 = ((UInt8.ofNat (rem % 128 + 128)).toNat : Int) := by
  have e : ((rem : Int) % 256) = ((rem % 256 : Nat) : Int) := by omega
  rw [e, byte_or128 _ (by omega), toNat_ofNat (by omega)]
  omega

theorem byte_low (rem : Nat) (h : rem < 128) : ((UInt8.ofNat rem).toNat : Int) = (rem : Int) := by
  rw [toNat_ofNat (by omega)]

theorem or128s (rem : Int) : bits .or .u8 (rem % 256) 128 = ((UInt8.ofNat ((rem % 128).toNat + 128)).toNat : Int) := by
  have e : rem % 256 = ((rem % 256).toNat : Int) := by omega
  rw [e, byte_or128 _ (by omega), toNat_ofNat (by omega)]
  omega

theorem and127s (rem : Int) : bits .and .u8 (rem % 256) 127 = ((UInt8.ofNat (rem % 128).toNat).toNat : Int) := by
  have := bits_mask .u8 8 (by decide) wraps_u8 7 (by decide) (rem % 256) (by omega) (by omega)
  rw [toNat_ofNat (by omega)]
  simp at this
  omega

theorem putS_room (rem : Int) (j : Nat) (hj : j ≤ 8) (h : -(2 ^ (7 * (10 - j)) : Int) ≤ 2 * rem ∧ 2 * rem < (2 ^ (7 * (10 - j)) : Int)) :
    -(2 ^ (7 * (10 - (j + 1))) : Int) ≤ 2 * (rem / 128) ∧ 2 * (rem / 128) < (2 ^ (7 * (10 - (j + 1))) : Int) := by
  have e : (2 : Int) ^ (7 * (10 - j)) = 128 * 2 ^ (7 * (10 - (j + 1))) := by
    rw [show 7 * (10 - j) = 7 + 7 * (10 - (j + 1)) by omega, Int.pow_add]; rfl
  have e2 : (2 : Int) ^ (7 * (10 - (j + 1))) = 128 * 2 ^ (7 * (10 - (j + 2))) := by
    rw [show 7 * (10 - (j + 1)) = 7 + 7 * (10 - (j + 2)) by omega, Int.pow_add]; rfl
  rw [e] at h
  rw [e2] at h ⊢
  omega

def fit4 (l : Nat) : Bool := decide (-8 ≤ s7 l ∧ s7 l < 8)
def fit1 (l : Nat) : Bool := decide (-1 ≤ s7 l ∧ s7 l < 1)

theorem wrap_i8 (n : Int) : IntKind.i8.wrap n = (n + 128) % 256 - 128 := by
  simp [IntKind.wrap, IntKind.bits, IntKind.signed]
  split <;> omega

theorem fit4_eq (l : Nat) (h : l < 128) : fit4 l = (IntKind.i8.wrap ((l : Int) * 2) / 16 == 0 || IntKind.i8.wrap ((l : Int) * 2) / 16 == -1) := by
  rw [Bool.eq_iff_iff, wrap_i8]
  simp only [Bool.or_eq_true, beq_iff_eq]
  unfold fit4 s7
  constructor
  · intro hd
    have hd := of_decide_eq_true hd
    split at hd <;> omega
  · intro hd
    refine decide_eq_true ?_
    split <;> omega
theorem fit1_eq (l : Nat) (h : l < 128) : fit1 l = (IntKind.i8.wrap ((l : Int) * 2) / 2 == 0 || IntKind.i8.wrap ((l : Int) * 2) / 2 == -1) := by
  rw [Bool.eq_iff_iff, wrap_i8]
  simp only [Bool.or_eq_true, beq_iff_eq]
  unfold fit1 s7
  constructor
  · intro hd
    have hd := of_decide_eq_true hd
    split at hd <;> omega
  · intro hd
    refine decide_eq_true ?_
    split <;> omega

/-- the bit of the sign -/
theorem and64_no (b : UInt8) (h : b.toNat < 64) : bits .and .u8 (b.toNat : Int) 64 = 0 := by
  have h' := (bits_nat .u8 8 (by decide) wraps_u8 b.toNat 64 (by omega) (by decide)).1
  have e : ((64 : Nat) : Int) = 64 := rfl
  rw [e] at h'
  rw [h']
  have hd : ∀ n : Nat, n < 64 → n &&& 64 = 0 := by decide
  rw [hd _ h]
  rfl
theorem and64_yes (b : UInt8) (h : 64 ≤ b.toNat) (h2 : b.toNat < 128) : bits .and .u8 (b.toNat : Int) 64 = 64 := by
  have h' := (bits_nat .u8 8 (by decide) wraps_u8 b.toNat 64 (by omega) (by decide)).1
  have e : ((64 : Nat) : Int) = 64 := rfl
  rw [e] at h'
  rw [h']
  have hd : ∀ n : Nat, n < 128 → 64 ≤ n → n &&& 64 = 64 := by decide
  rw [hd _ h2 h]
  rfl

/-- the bits above, all 1 -/
theorem or_sign (v k : Nat) (hk : 7 * k ≤ 63) (hv : v < 2 ^ (7 * k)) :
    bits .or .u64 ((mod64 v : Nat) : Int) (IntKind.u64.wrap (18446744073709551615 * 2 ^ (7 * k))) = (v : Int) - 2 ^ (7 * k) + 18446744073709551616 := by
  have h63 : (2 : Nat) ^ (7 * k) ≤ 2 ^ 63 := Nat.pow_le_pow_right (by decide) hk
  have e3 : (18446744073709551616 : Nat) = 2 ^ (7 * k) * 2 ^ (64 - 7 * k) := by rw [← Nat.pow_add, show 7 * k + (64 - 7 * k) = 64 by omega]
  have hp : (2 : Nat) ^ (64 - 7 * k) = 2 * 2 ^ (63 - 7 * k) := by rw [show 64 - 7 * k = 63 - 7 * k + 1 by omega, Nat.pow_succ]; omega
  have hq : 0 < (2 : Nat) ^ (63 - 7 * k) := Nat.pow_pos (by decide)
  have ec : ((2 : Int) ^ (7 * k)) = ((2 ^ (7 * k) : Nat) : Int) := by rw [Int.natCast_pow]; rfl
  have e2 : IntKind.u64.wrap (18446744073709551615 * 2 ^ (7 * k)) = ((2 ^ (7 * k) * (2 ^ (64 - 7 * k) - 1) : Nat) : Int) := by
    rw [IntKind.wrap_u64, ec, Nat.mul_sub, ← e3]
    generalize (2 : Nat) ^ (7 * k) = A at *
    omega
  have hm : mod64 v = v := by unfold mod64; omega
  rw [e2, hm, bits_or_u64_nat _ _ (by omega) (by rw [Nat.mul_sub, ← e3]; have : 0 < (2 : Nat) ^ (7 * k) := Nat.pow_pos (by decide); omega), Nat.or_comm, ← Nat.two_pow_add_eq_or_of_lt hv, Nat.mul_sub, ← e3, ec]
  generalize (2 : Nat) ^ (7 * k) = A at *
  omega
end Go.Proofs.Ytckigiemeimheaa.Leb
