/-
  Bytes, LebPlain, LebBits, LebPut, LebLaws in one.
-/
import Derived.WalkKit
import Derived.Laws.Bits64b
import Derived.Laws.BitsLemmas
import Derived.Test.YteidhccnbfikcaaGreatDoorProg
import Derived.WalkSpells
import Derived.WalkLawsBesides
import Derived.Lib.Hide
/- Bytes: Bytes that a call gathers in a slice of its own, and the string made of them. No condition beyond what each theorem names. -/
namespace Go.Proofs.YteidhccnbfikcaaGreatDoor.Bytes
open Go.RowKit

/-- the cells that hold some bytes -/
def cellsOf (l : List UInt8) : List Value := l.map fun b => .int .u8 (b.toNat : Int)

theorem cellsOf_append (l r : List UInt8) : cellsOf (l ++ r) = cellsOf l ++ cellsOf r := by simp [cellsOf]
theorem cellsOf_one (b : UInt8) : cellsOf [b] = [.int .u8 (b.toNat : Int)] := rfl
theorem cellsOf_length (l : List UInt8) : (cellsOf l).length = l.length := by simp [cellsOf]

/-- 'string(bytes)' of a slice of the call's own -/
theorem run_convert_own {P : Program} {w : World} {base e src dst n : Nat} {v : Value} {l : List UInt8} (hs : P.underlying src = some (.slice e)) (he : P.underlying e = some (.int .u8))
    (hd : P.underlying dst = some .string) (hown : w.ownsRow base e 1 v n (cellsOf l)) : (convert src dst v).run P w = .ok (.string ⟨l.toArray⟩) w := by
  have hn : l.length = n := by have := hown.1; simpa [cellsOf] using this
  rcases hown.2 with ⟨rfl, h0⟩ | ⟨g, cap, cur, rfl, hb, hg, hnc, hcm, hcs, htake⟩
  · have : l = [] := List.eq_nil_of_length_eq_zero (by omega)
    subst this
    exact run_convert_bytes_nil w src e hs he 0 0 dst hd
  · have hown' : w.ownsRow base e 1 (.slice (some ⟨g, 0, none⟩) n cap) n (cellsOf l) := hown
    have h := run_convert_bytes_arg w src e hs he g 0 n cap (l.map fun b => (b.toNat : Int)) (by simpa using hn) (fun i hi => by
      rw [Nat.zero_add, hown'.cellAt i (by omega)]
      have hi' : i < l.length := by omega
      simp [cellsOf, List.getElem?_eq_getElem hi', List.getD]) dst hd
    rw [h]
    congr 2
    simp only [strOfNums, List.map_map]
    congr 2
    have : ((fun n : Int => UInt8.ofNat n.toNat) ∘ fun b : UInt8 => (b.toNat : Int)) = id := by funext b; simp
    rw [this, List.map_id]
end Go.Proofs.YteidhccnbfikcaaGreatDoor.Bytes

/- LebPlain: LEB128 in plain Lean, no program in sight: what the bytes of a number are, what number some bytes are, and that one undoes the other. No condition. -/
namespace Go.Proofs.YteidhccnbfikcaaGreatDoor.Leb

/-- the number that bytes of seven bits make -/
def val : List UInt8 → Nat
  | [] => 0
  | b :: bs => b.toNat % 128 + 128 * val bs

/-- the bytes up to the first one below 128, at most k of them -/
def scan : Nat → List UInt8 → Option (List UInt8)
  | 0, _ => none
  | _ + 1, [] => none
  | k + 1, b :: bs => if b.toNat < 128 then some [b] else (scan k bs).map (b :: ·)

theorem val_lt (l : List UInt8) : val l < 2 ^ (7 * l.length) := by
  induction l with
  | nil => simp [val]
  | cons b l ih =>
    simp only [val, List.length_cons]
    have e : (2 : Nat) ^ (7 * (l.length + 1)) = 128 * 2 ^ (7 * l.length) := by rw [Nat.mul_add, Nat.pow_add]; omega
    rw [e]
    have := Nat.mod_lt b.toNat (show 0 < 128 by decide)
    omega

theorem val_append (l r : List UInt8) : val (l ++ r) = val l + 2 ^ (7 * l.length) * val r := by
  induction l with
  | nil => simp [val]
  | cons b l ih =>
    simp only [val, List.cons_append, List.length_cons, ih]
    have e : (2 : Nat) ^ (7 * (l.length + 1)) = 128 * 2 ^ (7 * l.length) := by rw [Nat.mul_add, Nat.pow_add]; omega
    rw [e, Nat.mul_add, Nat.mul_assoc]
    omega

theorem val_snoc (l : List UInt8) (b : UInt8) : val (l ++ [b]) = val l + b.toNat % 128 * 2 ^ (7 * l.length) := by
  rw [val_append, Nat.mul_comm]; simp [val]

/-- what is found: bytes of 128 and more, then one below -/
theorem scan_some {k : Nat} {l ds : List UInt8} (h : scan k l = some ds) :
    ∃ ini last rest, ds = ini ++ [last] ∧ l = ini ++ last :: rest ∧ last.toNat < 128 ∧ (∀ b ∈ ini, 128 ≤ b.toNat) ∧ ini.length < k := by
  induction k generalizing l ds with
  | zero => simp [scan] at h
  | succ k ih =>
    cases l with
    | nil => simp [scan] at h
    | cons b bs =>
      simp only [scan] at h
      split at h
      · rename_i hb
        simp only [Option.some.injEq] at h
        subst h
        exact ⟨[], b, bs, rfl, rfl, hb, by simp, by simp⟩
      · rename_i hb
        simp only [Option.map_eq_some_iff] at h
        obtain ⟨ds', h1, rfl⟩ := h
        obtain ⟨ini, last, rest, rfl, rfl, h2, h3, h4⟩ := ih h1
        refine ⟨b :: ini, last, rest, rfl, rfl, h2, ?_, by simp; omega⟩
        intro x hx
        rcases List.mem_cons.1 hx with rfl | hx
        · omega
        · exact h3 x hx

theorem scan_of {ini rest : List UInt8} {last : UInt8} {k : Nat} (h1 : ∀ b ∈ ini, 128 ≤ b.toNat) (h2 : last.toNat < 128) (h3 : ini.length < k) :
    scan k (ini ++ last :: rest) = some (ini ++ [last]) := by
  induction ini generalizing k with
  | nil =>
    cases k with
    | zero => simp at h3
    | succ k => simp [scan, h2]
  | cons b ini ih =>
    cases k with
    | zero => simp at h3
    | succ k =>
      have hb : ¬ b.toNat < 128 := by have := h1 b (by simp); omega
      simp only [List.cons_append, scan, hb, if_false]
      rw [ih (fun x hx => h1 x (by simp [hx])) (by simp at h3; omega)]
      rfl

/-- nothing is found: too many, or they end ahead of the last one -/
theorem scan_none_of {ini rest : List UInt8} {k : Nat} (h1 : ∀ b ∈ ini, 128 ≤ b.toNat) (h2 : k ≤ ini.length ∨ rest = []) : scan k (ini ++ rest) = none := by
  induction ini generalizing k with
  | nil =>
    cases k with
    | zero => simp [scan]
    | succ k =>
      rcases h2 with h2 | rfl
      · simp at h2
      · simp [scan]
  | cons b ini ih =>
    cases k with
    | zero => simp [scan]
    | succ k =>
      have hb : ¬ b.toNat < 128 := by have := h1 b (by simp); omega
      simp only [List.cons_append, scan, hb, if_false]
      rw [ih (fun x hx => h1 x (by simp [hx])) (by simpa using h2)]
      rfl

/-- the last of some bytes -/
def lastB (ds : List UInt8) : UInt8 := ds.getLastD 0
theorem lastB_snoc (l : List UInt8) (b : UInt8) : lastB (l ++ [b]) = b := by simp [lastB]

/-- the number of some bytes with a sign -/
def sval (ds : List UInt8) : Int :=
  (val ds : Int) - if 64 ≤ (ds.getLastD 0).toNat % 128 then 2 ^ (7 * ds.length) else 0

/-- what is read of bytes: without a sign, with one -/
def rdU (bits : Nat) (ds : List UInt8) : Option Nat := if val ds < 2 ^ bits then some (val ds) else none
def rdS (bits : Nat) (ds : List UInt8) : Option Int :=
  if -(2 ^ (bits - 1) : Int) ≤ sval ds ∧ sval ds < (2 ^ (bits - 1) : Int) then some (sval ds) else none

/-- the bytes of a number without a sign, with one: so many at the most -/
def putU : Nat → Nat → List UInt8
  | 0, _ => []
  | k + 1, n => if n < 128 then [UInt8.ofNat n] else UInt8.ofNat (n % 128 + 128) :: putU k (n / 128)
def putS : Nat → Int → List UInt8
  | 0, _ => []
  | k + 1, n => if -64 ≤ n ∧ n < 64 then [UInt8.ofNat (n % 128).toNat] else UInt8.ofNat ((n % 128).toNat + 128) :: putS k (n / 128)

theorem toNat_ofNat {n : Nat} (h : n < 256) : (UInt8.ofNat n).toNat = n := by
  rw [UInt8.toNat_ofNat']; omega

theorem putU_form (k n : Nat) (h : n < 2 ^ (7 * k)) (hk : 0 < k) :
    ∃ ini last, putU k n = ini ++ [last] ∧ last.toNat < 128 ∧ (∀ b ∈ ini, 128 ≤ b.toNat) ∧ ini.length < k ∧ val (putU k n) = n := by
  induction k generalizing n with
  | zero => omega
  | succ k ih =>
    simp only [putU]
    split
    · rename_i hn
      refine ⟨[], UInt8.ofNat n, rfl, ?_, by simp, by simp, ?_⟩
      · rw [toNat_ofNat (by omega)]; exact hn
      · simp only [val]; rw [toNat_ofNat (by omega)]; omega
    · rename_i hn
      cases k with
      | zero => simp at h; omega
      | succ k =>
        have e : (2 : Nat) ^ (7 * (k + 1 + 1)) = 128 * 2 ^ (7 * (k + 1)) := by rw [Nat.mul_add 7 (k + 1), Nat.pow_add]; omega
        obtain ⟨ini, last, h1, h2, h3, h4, h5⟩ := ih (n / 128) (by omega) (by omega)
        have hb : (UInt8.ofNat (n % 128 + 128)).toNat = n % 128 + 128 := toNat_ofNat (by omega)
        refine ⟨UInt8.ofNat (n % 128 + 128) :: ini, last, by rw [h1]; rfl, h2, ?_, by simp; omega, ?_⟩
        · intro x hx
          rcases List.mem_cons.1 hx with rfl | hx
          · omega
          · exact h3 x hx
        · simp only [val, h5, hb]; omega

theorem getLastD_snoc (l : List UInt8) (b d : UInt8) : (l ++ [b]).getLastD d = b := by simp

theorem sval_cons (b : UInt8) (l : List UInt8) (hl : l ≠ []) : sval (b :: l) = (b.toNat % 128 : Nat) + 128 * sval l := by
  have hg : (b :: l).getLastD 0 = l.getLastD 0 := by
    cases l with
    | nil => exact absurd rfl hl
    | cons c l => simp [List.getLastD, List.getLast_cons]
  have e : (2 : Int) ^ (7 * (l.length + 1)) = 128 * 2 ^ (7 * l.length) := by rw [Nat.mul_add, Int.pow_add]; omega
  unfold sval
  rw [hg, List.length_cons, e]
  simp only [val]
  split <;> omega

theorem putS_form (k : Nat) (n : Int) (h : -(2 ^ (7 * k) : Int) ≤ 2 * n ∧ 2 * n < (2 ^ (7 * k) : Int)) (hk : 0 < k) :
    ∃ ini last, putS k n = ini ++ [last] ∧ last.toNat < 128 ∧ (∀ b ∈ ini, 128 ≤ b.toNat) ∧ ini.length < k ∧ sval (putS k n) = n := by
  induction k generalizing n with
  | zero => omega
  | succ k ih =>
    simp only [putS]
    split
    · rename_i hn
      have hb : (UInt8.ofNat (n % 128).toNat).toNat = (n % 128).toNat := toNat_ofNat (by omega)
      refine ⟨[], UInt8.ofNat (n % 128).toNat, rfl, ?_, by simp, by simp, ?_⟩
      · rw [hb]; omega
      · simp only [sval, val, List.length_cons, List.length_nil, List.getLastD_cons, List.getLastD_nil, hb]
        split <;> omega
    · rename_i hn
      cases k with
      | zero => simp at h; omega
      | succ k =>
        have e : (2 : Int) ^ (7 * (k + 1 + 1)) = 128 * 2 ^ (7 * (k + 1)) := by rw [Nat.mul_add 7 (k + 1), Int.pow_add]; omega
        have e2 : (2 : Int) ^ (7 * (k + 1)) = 128 * 2 ^ (7 * k) := by rw [Nat.mul_add 7 k, Int.pow_add]; omega
        rw [e] at h
        obtain ⟨ini, last, h1, h2, h3, h4, h5⟩ := ih (n / 128) (by rw [e2] at h ⊢; omega) (by omega)
        have hb : (UInt8.ofNat ((n % 128).toNat + 128)).toNat = (n % 128).toNat + 128 := toNat_ofNat (by omega)
        refine ⟨UInt8.ofNat ((n % 128).toNat + 128) :: ini, last, by rw [h1]; rfl, h2, ?_, by simp; omega, ?_⟩
        · intro x hx
          rcases List.mem_cons.1 hx with rfl | hx
          · omega
          · exact h3 x hx
        · rw [sval_cons _ _ (by rw [h1]; simp), h5, hb]; omega


def readU (bits : Nat) (l : List UInt8) : Option (Nat × Nat) :=
  match scan ((bits + 6) / 7) l with
  | none => none
  | some ds => (rdU bits ds).map fun v => (v, ds.length)
def readS (bits : Nat) (l : List UInt8) : Option (Int × Nat) :=
  match scan ((bits + 6) / 7) l with
  | none => none
  | some ds => (rdS bits ds).map fun v => (v, ds.length)

/-- the number, the place behind, the error -/
def ansU (bits : Nat) (l : List UInt8) (at_ : Int) : Int × Int × Int :=
  if at_ < 0 ∨ (l.length : Int) < at_ then (0, 0, 1)
  else match readU bits (l.drop at_.toNat) with
    | none => (0, 0, 2)
    | some (v, n) => ((v : Int), at_ + n, 0)
def ansS (bits : Nat) (l : List UInt8) (at_ : Int) : Int × Int × Int :=
  if at_ < 0 ∨ (l.length : Int) < at_ then (0, 0, 1)
  else match readS bits (l.drop at_.toNat) with
    | none => (0, 0, 2)
    | some (v, n) => (v, at_ + n, 0)

/-- a byte below 128 as a number of seven bits with a sign -/
def s7 (l : Nat) : Int := (l : Int) - if 64 ≤ l then 128 else 0

theorem val_last (ini : List UInt8) (last : UInt8) (h : last.toNat < 128) : val (ini ++ [last]) = val ini + last.toNat * 2 ^ (7 * ini.length) := by
  rw [val_snoc, Nat.mod_eq_of_lt h]

theorem sval_last (ini : List UInt8) (last : UInt8) (h : last.toNat < 128) : sval (ini ++ [last]) = (val ini : Int) + s7 last.toNat * 2 ^ (7 * ini.length) := by
  unfold sval s7
  rw [val_last _ _ h, getLastD_snoc, Nat.mod_eq_of_lt h, List.length_append, List.length_singleton]
  have e : (2 : Int) ^ (7 * (ini.length + 1)) = 128 * 2 ^ (7 * ini.length) := by rw [Nat.mul_add, Int.pow_add]; omega
  have ec : ((2 : Int) ^ (7 * ini.length)) = ((2 ^ (7 * ini.length) : Nat) : Int) := by rw [Int.natCast_pow]; rfl
  rw [e, Int.natCast_add, Int.natCast_mul, ec]
  generalize ((2 ^ (7 * ini.length) : Nat) : Int) = A
  split
  · rw [Int.sub_mul]; omega
  · simp

/-- room: what the last byte may be -/
theorem room_u (ini : List UInt8) (last : UInt8) (h : last.toNat < 128) (r : Nat) : val (ini ++ [last]) < 2 ^ (7 * ini.length + r) ↔ last.toNat < 2 ^ r := by
  rw [val_last _ _ h, Nat.pow_add]
  have hv := val_lt ini
  generalize (2 : Nat) ^ (7 * ini.length) = A at *
  generalize (2 : Nat) ^ r = B at *
  constructor
  · intro hlt
    rcases Nat.lt_or_ge last.toNat B with h1 | h1
    · exact h1
    · have := Nat.mul_le_mul_right A h1
      rw [Nat.mul_comm B A] at this
      omega
  · intro hlt
    have := Nat.mul_le_mul_right A (show last.toNat + 1 ≤ B from hlt)
    rw [Nat.mul_comm B A, Nat.add_mul] at this
    omega

theorem room_s (ini : List UInt8) (last : UInt8) (h : last.toNat < 128) (r : Nat) :
    (-(2 ^ (7 * ini.length + r) : Int) ≤ sval (ini ++ [last]) ∧ sval (ini ++ [last]) < (2 ^ (7 * ini.length + r) : Int)) ↔ (-(2 ^ r : Int) ≤ s7 last.toNat ∧ s7 last.toNat < (2 ^ r : Int)) := by
  rw [sval_last _ _ h, Int.pow_add]
  have hv : (val ini : Int) < 2 ^ (7 * ini.length) := by have := val_lt ini; exact_mod_cast this
  have hv0 : (0 : Int) ≤ val ini := Int.natCast_nonneg _
  generalize (2 : Int) ^ (7 * ini.length) = A at *
  generalize (2 : Int) ^ r = B at *
  generalize s7 last.toNat = S at *
  generalize (val ini : Int) = V at *
  have hA : 0 < A := by omega
  constructor
  · rintro ⟨h1, h2⟩
    constructor
    · rcases Int.lt_or_le S (-B) with h3 | h3
      · have := Int.mul_le_mul_of_nonneg_right (show S + 1 ≤ -B by omega) (Int.le_of_lt hA)
        rw [Int.add_mul, Int.neg_mul, Int.mul_comm B A] at this
        omega
      · exact h3
    · rcases Int.lt_or_le S B with h3 | h3
      · exact h3
      · have := Int.mul_le_mul_of_nonneg_right h3 (Int.le_of_lt hA)
        rw [Int.mul_comm B A] at this
        omega
  · rintro ⟨h1, h2⟩
    constructor
    · have := Int.mul_le_mul_of_nonneg_right h1 (Int.le_of_lt hA)
      rw [Int.neg_mul, Int.mul_comm B A] at this
      omega
    · have := Int.mul_le_mul_of_nonneg_right (show S + 1 ≤ B by omega) (Int.le_of_lt hA)
      rw [Int.add_mul, Int.mul_comm B A] at this
      omega

/-- a short one has room always -/
theorem short_s (ini : List UInt8) (last : UInt8) (h : last.toNat < 128) :
    -(2 ^ (7 * ini.length + 6) : Int) ≤ sval (ini ++ [last]) ∧ sval (ini ++ [last]) < (2 ^ (7 * ini.length + 6) : Int) := by
  rw [room_s ini last h 6]
  unfold s7
  split <;> omega
end Go.Proofs.YteidhccnbfikcaaGreatDoor.Leb

/- LebBits: What the operations on bits that the LEB code makes come to, in numbers. No condition beyond what each theorem names. -/
namespace Go.Proofs.YteidhccnbfikcaaGreatDoor.Leb
open Go.RowKit

def mod64 (n : Nat) : Nat := n % 18446744073709551616

theorem byte_and127 (b : UInt8) : bits .and .u8 (b.toNat : Int) 127 = ((b.toNat % 128 : Nat) : Int) := by
  have hb := b.toNat_lt
  have := bits_mask .u8 8 (by decide) wraps_u8 7 (by decide) (b.toNat : Int) (by omega) (by omega)
  simpa using this

/-- one byte more -/
theorem raw_step (t : List UInt8) (b : UInt8) (k : Nat) (ht : t.length = k) (hk : k ≤ 9) :
    bits .or .u64 ((mod64 (val t) : Nat) : Int) (IntKind.u64.wrap (IntKind.u64.wrap (bits .and .u8 (b.toNat : Int) 127) * 2 ^ (7 * k))) = ((mod64 (val (t ++ [b])) : Nat) : Int) := by
  subst ht
  rw [byte_and127, val_snoc]
  have hv := val_lt t
  generalize val t = N at *
  have hx : b.toNat % 128 < 128 := Nat.mod_lt _ (by decide)
  generalize b.toNat % 128 = x at *
  have h63 : (2 : Nat) ^ (7 * t.length) ≤ 2 ^ 63 := Nat.pow_le_pow_right (by decide) (by omega)
  have hN : mod64 N = N := by unfold mod64; omega
  have e1 : IntKind.u64.wrap ((x : Nat) : Int) = x := by rw [IntKind.wrap_u64]; omega
  have e2 : IntKind.u64.wrap ((x : Int) * 2 ^ (7 * t.length)) = ((x * 2 ^ (7 * t.length) % 18446744073709551616 : Nat) : Int) := by
    have e : (x : Int) * 2 ^ (7 * t.length) = ((x * 2 ^ (7 * t.length) : Nat) : Int) := by rw [Int.natCast_mul, Int.natCast_pow]; rfl
    rw [e, IntKind.wrap_u64]; omega
  rw [hN, e1, e2, bits_or_u64_nat _ _ (by omega) (Nat.mod_lt _ (by decide))]
  have e3 : (18446744073709551616 : Nat) = 2 ^ (7 * t.length) * 2 ^ (64 - 7 * t.length) := by rw [← Nat.pow_add, show 7 * t.length + (64 - 7 * t.length) = 64 by omega]
  have e4 : x * 2 ^ (7 * t.length) % 18446744073709551616 = 2 ^ (7 * t.length) * (x % 2 ^ (64 - 7 * t.length)) := by
    rw [e3, Nat.mul_comm x, Nat.mul_mod_mul_left]
  have hy : x % 2 ^ (64 - 7 * t.length) < 2 ^ (64 - 7 * t.length) := Nat.mod_lt _ (Nat.pow_pos (by decide))
  have e5 : (N + x * 2 ^ (7 * t.length)) % 18446744073709551616 = N + 2 ^ (7 * t.length) * (x % 2 ^ (64 - 7 * t.length)) := by
    rw [← e4]
    have hlt : N + x * 2 ^ (7 * t.length) % 18446744073709551616 < 18446744073709551616 := by
      rw [e4]
      calc N + 2 ^ (7 * t.length) * (x % 2 ^ (64 - 7 * t.length)) < 2 ^ (7 * t.length) + 2 ^ (7 * t.length) * (x % 2 ^ (64 - 7 * t.length)) := by omega
        _ = 2 ^ (7 * t.length) * (x % 2 ^ (64 - 7 * t.length) + 1) := by rw [Nat.mul_add]; omega
        _ ≤ 2 ^ (7 * t.length) * 2 ^ (64 - 7 * t.length) := Nat.mul_le_mul_left _ hy
        _ = 18446744073709551616 := e3.symm
    omega
  unfold mod64
  rw [e4, e5]
  congr 1
  rw [Nat.or_comm, ← Nat.two_pow_add_eq_or_of_lt (by omega), Nat.add_comm]

theorem byte_or128 (x : Nat) (hx : x < 256) : bits .or .u8 (x : Int) 128 = ((x % 128 + 128 : Nat) : Int) := by
  have h := (bits_nat .u8 8 (by decide) wraps_u8 x 128 (by omega) (by decide)).2
  have e : ((128 : Nat) : Int) = 128 := rfl
  rw [e] at h
  rw [h]
  congr 1
  have h2 : x = 128 * (x / 128) + x % 128 := by omega
  have hlt : x % 128 < 2 ^ 7 := Nat.mod_lt _ (by decide)
  have h3 : ∀ q r : Nat, q < 2 → r < 2 ^ 7 → (2 ^ 7 * q + r) ||| 128 = r + 128 := by
    intro q r hq hr
    rw [Nat.two_pow_add_eq_or_of_lt hr, Nat.or_assoc, Nat.or_comm r, ← Nat.or_assoc]
    have : 2 ^ 7 * q ||| 128 = 2 ^ 7 * 1 := by
      rcases (show q = 0 ∨ q = 1 by omega) with rfl | rfl <;> rfl
    rw [this, ← Nat.two_pow_add_eq_or_of_lt hr]
    omega
  have := h3 (x / 128) (x % 128) (by omega) hlt
  rw [show 2 ^ 7 * (x / 128) + x % 128 = x by omega] at this
  exact this

theorem or128 (rem : Nat) : bits .or .u8 ((rem : Int) % 256) 128 = ((UInt8.ofNat (rem % 128 + 128)).toNat : Int) := by
  have e : ((rem : Int) % 256) = ((rem % 256 : Nat) : Int) := by omega
  rw [e, byte_or128 _ (by omega), toNat_ofNat (by omega)]
  omega

theorem byte_low (rem : Nat) (h : rem < 128) : ((UInt8.ofNat rem).toNat : Int) = (rem : Int) := by
  rw [toNat_ofNat (by omega)]

theorem or128s (rem : Int) : bits .or .u8 (rem % 256) 128 = ((UInt8.ofNat ((rem % 128).toNat + 128)).toNat : Int) := by
  have e : rem % 256 = ((rem % 256).toNat : Int) := by omega
  rw [e, byte_or128 _ (by omega), toNat_ofNat (by omega)]
  omega

theorem and127s (rem : Int) : bits .and .u8 (rem % 256) 127 = ((UInt8.ofNat (rem % 128).toNat).toNat : Int) := by
  have := bits_mask .u8 8 (by decide) wraps_u8 7 (by decide) (rem % 256) (by omega) (by omega)
  rw [toNat_ofNat (by omega)]
  simp at this
  omega

theorem putS_room (rem : Int) (j : Nat) (hj : j ≤ 8) (h : -(2 ^ (7 * (10 - j)) : Int) ≤ 2 * rem ∧ 2 * rem < (2 ^ (7 * (10 - j)) : Int)) :
    -(2 ^ (7 * (10 - (j + 1))) : Int) ≤ 2 * (rem / 128) ∧ 2 * (rem / 128) < (2 ^ (7 * (10 - (j + 1))) : Int) := by
  have e : (2 : Int) ^ (7 * (10 - j)) = 128 * 2 ^ (7 * (10 - (j + 1))) := by
    rw [show 7 * (10 - j) = 7 + 7 * (10 - (j + 1)) by omega, Int.pow_add]; rfl
  have e2 : (2 : Int) ^ (7 * (10 - (j + 1))) = 128 * 2 ^ (7 * (10 - (j + 2))) := by
    rw [show 7 * (10 - (j + 1)) = 7 + 7 * (10 - (j + 2)) by omega, Int.pow_add]; rfl
  rw [e] at h
  rw [e2] at h ⊢
  omega

def fit4 (l : Nat) : Bool := decide (-8 ≤ s7 l ∧ s7 l < 8)
def fit1 (l : Nat) : Bool := decide (-1 ≤ s7 l ∧ s7 l < 1)

theorem wrap_i8 (n : Int) : IntKind.i8.wrap n = (n + 128) % 256 - 128 := by
  simp [IntKind.wrap, IntKind.bits, IntKind.signed]
  split <;> omega

theorem fit4_eq (l : Nat) (h : l < 128) : fit4 l = (IntKind.i8.wrap ((l : Int) * 2) / 16 == 0 || IntKind.i8.wrap ((l : Int) * 2) / 16 == -1) := by
  rw [Bool.eq_iff_iff, wrap_i8]
  simp only [Bool.or_eq_true, beq_iff_eq]
  unfold fit4 s7
  constructor
  · intro hd
    have hd := of_decide_eq_true hd
    split at hd <;> omega
  · intro hd
    refine decide_eq_true ?_
    split <;> omega
theorem fit1_eq (l : Nat) (h : l < 128) : fit1 l = (IntKind.i8.wrap ((l : Int) * 2) / 2 == 0 || IntKind.i8.wrap ((l : Int) * 2) / 2 == -1) := by
  rw [Bool.eq_iff_iff, wrap_i8]
  simp only [Bool.or_eq_true, beq_iff_eq]
  unfold fit1 s7
  constructor
  · intro hd
    have hd := of_decide_eq_true hd
    split at hd <;> omega
  · intro hd
    refine decide_eq_true ?_
    split <;> omega

/-- the bit of the sign -/
theorem and64_no (b : UInt8) (h : b.toNat < 64) : bits .and .u8 (b.toNat : Int) 64 = 0 := by
  have h' := (bits_nat .u8 8 (by decide) wraps_u8 b.toNat 64 (by omega) (by decide)).1
  have e : ((64 : Nat) : Int) = 64 := rfl
  rw [e] at h'
  rw [h']
  have hd : ∀ n : Nat, n < 64 → n &&& 64 = 0 := by decide
  rw [hd _ h]
  rfl
theorem and64_yes (b : UInt8) (h : 64 ≤ b.toNat) (h2 : b.toNat < 128) : bits .and .u8 (b.toNat : Int) 64 = 64 := by
  have h' := (bits_nat .u8 8 (by decide) wraps_u8 b.toNat 64 (by omega) (by decide)).1
  have e : ((64 : Nat) : Int) = 64 := rfl
  rw [e] at h'
  rw [h']
  have hd : ∀ n : Nat, n < 128 → 64 ≤ n → n &&& 64 = 64 := by decide
  rw [hd _ h2 h]
  rfl

/-- the bits above, all 1 -/
theorem or_sign (v k : Nat) (hk : 7 * k ≤ 63) (hv : v < 2 ^ (7 * k)) :
    bits .or .u64 ((mod64 v : Nat) : Int) (IntKind.u64.wrap (18446744073709551615 * 2 ^ (7 * k))) = (v : Int) - 2 ^ (7 * k) + 18446744073709551616 := by
  have h63 : (2 : Nat) ^ (7 * k) ≤ 2 ^ 63 := Nat.pow_le_pow_right (by decide) hk
  have e3 : (18446744073709551616 : Nat) = 2 ^ (7 * k) * 2 ^ (64 - 7 * k) := by rw [← Nat.pow_add, show 7 * k + (64 - 7 * k) = 64 by omega]
  have hp : (2 : Nat) ^ (64 - 7 * k) = 2 * 2 ^ (63 - 7 * k) := by rw [show 64 - 7 * k = 63 - 7 * k + 1 by omega, Nat.pow_succ]; omega
  have hq : 0 < (2 : Nat) ^ (63 - 7 * k) := Nat.pow_pos (by decide)
  have ec : ((2 : Int) ^ (7 * k)) = ((2 ^ (7 * k) : Nat) : Int) := by rw [Int.natCast_pow]; rfl
  have e2 : IntKind.u64.wrap (18446744073709551615 * 2 ^ (7 * k)) = ((2 ^ (7 * k) * (2 ^ (64 - 7 * k) - 1) : Nat) : Int) := by
    rw [IntKind.wrap_u64, ec, Nat.mul_sub, ← e3]
    generalize (2 : Nat) ^ (7 * k) = A at *
    omega
  have hm : mod64 v = v := by unfold mod64; omega
  rw [e2, hm, bits_or_u64_nat _ _ (by omega) (by rw [Nat.mul_sub, ← e3]; have : 0 < (2 : Nat) ^ (7 * k) := Nat.pow_pos (by decide); omega), Nat.or_comm, ← Nat.two_pow_add_eq_or_of_lt hv, Nat.mul_sub, ← e3, ec]
  generalize (2 : Nat) ^ (7 * k) = A at *
  omega
end Go.Proofs.YteidhccnbfikcaaGreatDoor.Leb

/- LebPut: What leb.PutU and leb.PutS answer. No condition beyond what each theorem names. -/
namespace Go.Proofs.YteidhccnbfikcaaGreatDoor.Leb
open Go.RowKit Go.Proofs.YteidhccnbfikcaaGreatDoor.Bytes
set_option linter.unusedVariables false

theorem info_u8 : (Tryz.prog.info? 5).map (fun i => (i.zero, i.size, i.bytes)) = some (some (.int .u8 0), 1, 1) := by kernel_rfl

set_option maxRecDepth 100000 in
set_option maxHeartbeats 400000 in
theorem putU_any (n : Nat) (w : World) (hn : n < 2 ^ 64) :
    Calls Tryz.prog 123 #[.int .u64 n] w fun e w' => e = .returned (.string ⟨(putU 10 n).toArray⟩) ∧ Below w.heap.size w w' := by
  obtain ⟨i0, hi, hz0, hz1, hz2⟩ := info_parts info_u8
  have HN := Lib.hid hn
  clear hn
  go_enter Tryz.func123, Tryz.ntmps123
  go_wp2
  go_loopw [0, 3] (fun nv v wr => ∃ (j rem : Nat) (acc : List UInt8), acc.length = j ∧ j ≤ 9 ∧ rem < 2 ^ (7 * (10 - j)) ∧ putU 10 n = acc ++ putU (10 - j) rem ∧ nv = .int .u64 rem ∧ wr.ownsRow w.heap.size 5 1 v j (cellsOf acc) ∧ Below w.heap.size w wr) (fun nv _ _ => (intOf nv).toNat)
  case atStart => exact ⟨0, n, [], rfl, by omega, by have := HN.out; omega, rfl, rfl, World.ownsRow_nil _ _ _ _, Below.refl _ _⟩
  case round =>
    obtain ⟨j, rem, acc, hj, hj9, hrem, hput, rfl, hown, hbel⟩ := hrel
    have HJ := Lib.hid hj
    have HR := Lib.hid hrem
    have HP := Lib.hid hput
    clear hj hrem hput
    have hj' : acc.length = j := HJ.out
    by_cases h : 127 < rem
    · have hj8 : j ≤ 8 := by
        have hr := HR.out
        by_cases e : j = 9
        · subst e; simp at hr; omega
        · omega
      have HB := Lib.hid (or128 rem)
      clear hj'
      go_wp2_with (at_builtin; refine wpList_append_own _ rfl _ _ 45 rfl w.heap.size 5 i0 (.int .u8 0) 1 1 Tryz.underlying45 hi hz0 hz1 hz2 rfl (by decide) _ _ _ rfl (hown.alloc _) ⟨wr.heap.size, 0, none⟩ 1 1 [.int .u8 (bits .or .u8 ((rem : Int) % 256) 128)] rfl rfl ?c1 ?c2 ?c3 ?c4 ?c5 ?_)
      case c1 => exact cell_one_new _ _ _
      case c2 => simp [Value.oneCell']
      case c3 => unfold maxLen; omega
      case c4 => omega
      case c5 => have := hbel.size; simp; omega
      intro v' w1 hown1 hgrow _
      have hown2 : w1.ownsRow w.heap.size 5 1 v' (j + 1) (cellsOf (acc ++ [UInt8.ofNat (rem % 128 + 128)])) := by
        rw [cellsOf_append, cellsOf_one, ← HB.out]; exact hown1
      have hbel1 : Below w.heap.size w w1 := by
        exact (hbel.alloc hbel.size _).grown hgrow (by have := hbel.size; simp; omega) (fun k hk => (hown.lt k hk).1)
      clear hown1 hgrow
      go_wp2
      go_roundw
      case rel =>
        refine ⟨j + 1, rem / 128, acc ++ [UInt8.ofNat (rem % 128 + 128)], by simp [HJ.out], by omega, ?_, ?_, by go_num, hown2, hbel1⟩
        · have hr := HR.out
          have e : (2 : Nat) ^ (7 * (10 - j)) = 128 * 2 ^ (7 * (10 - (j + 1))) := by
            rw [show 7 * (10 - j) = 7 + 7 * (10 - (j + 1)) by omega, Nat.pow_add]
          omega
        · rw [HP.out, show 10 - j = (10 - (j + 1)) + 1 by omega]
          simp only [putU, if_neg (show ¬ rem < 128 by omega)]
          simp
      case measure => simp [intOf]; omega
    · have HB := Lib.hid (byte_low rem (by omega))
      clear hj'
      go_wp2_with (at_builtin; refine wpList_append_own _ rfl _ _ 45 rfl w.heap.size 5 i0 (.int .u8 0) 1 1 Tryz.underlying45 hi hz0 hz1 hz2 rfl (by decide) _ _ _ rfl (hown.alloc _) ⟨wr.heap.size, 0, none⟩ 1 1 [.int .u8 (rem : Int)] rfl rfl ?c1 ?c2 ?c3 ?c4 ?c5 ?_)
      case c1 => exact cell_one_new _ _ _
      case c2 => simp [Value.oneCell']
      case c3 => unfold maxLen; omega
      case c4 => omega
      case c5 => have := hbel.size; simp; omega
      intro v' w1 hown1 hgrow _
      have hown2 : w1.ownsRow w.heap.size 5 1 v' (j + 1) (cellsOf (acc ++ [UInt8.ofNat rem])) := by
        rw [cellsOf_append, cellsOf_one, HB.out]; exact hown1
      have hbel1 : Below w.heap.size w w1 := by
        exact (hbel.alloc hbel.size _).grown hgrow (by have := hbel.size; simp; omega) (fun k hk => (hown.lt k hk).1)
      have hcv := run_convert_own (P := Tryz.prog) (src := 45) (dst := 9) Tryz.underlying45 Tryz.underlying5 Tryz.underlying9 hown2
      clear hown1 hgrow
      have HE := Lib.hid (show putU 10 n = acc ++ [UInt8.ofNat rem] by
        rw [HP.out, show 10 - j = (9 - j) + 1 by omega]
        simp only [putU, if_pos (show rem < 128 by omega)])
      go_wp2
      go_ret
      exact ⟨by rw [HE.out]; rfl, hbel1⟩

set_option maxRecDepth 100000 in
set_option maxHeartbeats 400000 in
theorem putS_any (n : Int) (w : World) (hn : -(2 ^ 63) ≤ n ∧ n < 2 ^ 63) :
    Calls Tryz.prog 119 #[.int .i64 n] w fun e w' => e = .returned (.string ⟨(putS 10 n).toArray⟩) ∧ Below w.heap.size w w' := by
  obtain ⟨i0, hi, hz0, hz1, hz2⟩ := info_parts info_u8
  have HN := Lib.hid hn
  clear hn
  go_enter Tryz.func119, Tryz.ntmps119
  go_wp2
  go_loopw [0, 3] (fun nv v wr => ∃ (j : Nat) (rem : Int) (acc : List UInt8), acc.length = j ∧ j ≤ 9 ∧ (-(2 ^ (7 * (10 - j)) : Int) ≤ 2 * rem ∧ 2 * rem < (2 ^ (7 * (10 - j)) : Int)) ∧ putS 10 n = acc ++ putS (10 - j) rem ∧ nv = .int .i64 rem ∧ wr.ownsRow w.heap.size 5 1 v j (cellsOf acc) ∧ Below w.heap.size w wr) (fun nv _ _ => (intOf nv).natAbs)
  case atStart => exact ⟨0, n, [], rfl, by omega, by have := HN.out; omega, rfl, rfl, World.ownsRow_nil _ _ _ _, Below.refl _ _⟩
  case round =>
    obtain ⟨j, rem, acc, hj, hj9, hrem, hput, rfl, hown, hbel⟩ := hrel
    have HJ := Lib.hid hj
    have HR := Lib.hid hrem
    have HP := Lib.hid hput
    clear hj hrem hput
    have HB := Lib.hid (or128s rem)
    have h9 : j = 9 → -64 ≤ rem ∧ rem < 64 := by
      intro e
      have hr := HR.out
      subst e
      simp at hr
      omega
    by_cases h1 : rem < -64
    · have hj8 : j ≤ 8 := by
        by_cases e : j = 9
        · have := h9 e; omega
        · omega
      clear h9
      go_wp2_with (at_builtin; refine wpList_append_own _ rfl _ _ 45 rfl w.heap.size 5 i0 (.int .u8 0) 1 1 Tryz.underlying45 hi hz0 hz1 hz2 rfl (by decide) _ _ _ rfl (hown.alloc _) ⟨wr.heap.size, 0, none⟩ 1 1 [.int .u8 (bits .or .u8 (rem % 256) 128)] rfl rfl ?c1 ?c2 ?c3 ?c4 ?c5 ?_)
      case c1 => exact cell_one_new _ _ _
      case c2 => simp [Value.oneCell']
      case c3 => unfold maxLen; omega
      case c4 => omega
      case c5 => have := hbel.size; simp; omega
      intro v' w1 hown1 hgrow _
      have hown2 : w1.ownsRow w.heap.size 5 1 v' (j + 1) (cellsOf (acc ++ [UInt8.ofNat ((rem % 128).toNat + 128)])) := by
        rw [cellsOf_append, cellsOf_one, ← HB.out]; exact hown1
      have hbel1 : Below w.heap.size w w1 := by
        exact (hbel.alloc hbel.size _).grown hgrow (by have := hbel.size; simp; omega) (fun k hk => (hown.lt k hk).1)
      clear hown1 hgrow
      go_wp2
      go_roundw
      case rel =>
        refine ⟨j + 1, rem / 128, acc ++ [UInt8.ofNat ((rem % 128).toNat + 128)], by simp [HJ.out], by omega, ?_, ?_, rfl, hown2, hbel1⟩
        · exact putS_room rem j hj8 HR.out
        · rw [HP.out, show 10 - j = (10 - (j + 1)) + 1 by omega]
          simp only [putS, if_neg (show ¬ (-64 ≤ rem ∧ rem < 64) by omega)]
          simp
      case measure => simp [intOf]; omega
    · by_cases h2 : 64 ≤ rem
      · have hj8 : j ≤ 8 := by
          by_cases e : j = 9
          · have := h9 e; omega
          · omega
        clear h9
        go_wp2_with (at_builtin; refine wpList_append_own _ rfl _ _ 45 rfl w.heap.size 5 i0 (.int .u8 0) 1 1 Tryz.underlying45 hi hz0 hz1 hz2 rfl (by decide) _ _ _ rfl (hown.alloc _) ⟨wr.heap.size, 0, none⟩ 1 1 [.int .u8 (bits .or .u8 (rem % 256) 128)] rfl rfl ?d1 ?d2 ?d3 ?d4 ?d5 ?_)
        try (case d1 => exact cell_one_new _ _ _)
        case d2 => simp [Value.oneCell']
        case d3 => unfold maxLen; omega
        case d4 => omega
        case d5 => have := hbel.size; simp; omega
        intro v' w1 hown1 hgrow _
        have hown2 : w1.ownsRow w.heap.size 5 1 v' (j + 1) (cellsOf (acc ++ [UInt8.ofNat ((rem % 128).toNat + 128)])) := by
          rw [cellsOf_append, cellsOf_one, ← HB.out]; exact hown1
        have hbel1 : Below w.heap.size w w1 := by
          exact (hbel.alloc hbel.size _).grown hgrow (by have := hbel.size; simp; omega) (fun k hk => (hown.lt k hk).1)
        clear hown1 hgrow
        go_wp2
        go_roundw
        case rel =>
          refine ⟨j + 1, rem / 128, acc ++ [UInt8.ofNat ((rem % 128).toNat + 128)], by simp [HJ.out], by omega, ?_, ?_, rfl, hown2, hbel1⟩
          · exact putS_room rem j hj8 HR.out
          · rw [HP.out, show 10 - j = (10 - (j + 1)) + 1 by omega]
            simp only [putS, if_neg (show ¬ (-64 ≤ rem ∧ rem < 64) by omega)]
            simp
        case measure => simp [intOf]; omega
      · clear h9 HB
        have HB := Lib.hid (and127s rem)
        go_wp2_with (at_builtin; refine wpList_append_own _ rfl _ _ 45 rfl w.heap.size 5 i0 (.int .u8 0) 1 1 Tryz.underlying45 hi hz0 hz1 hz2 rfl (by decide) _ _ _ rfl (hown.alloc _) ⟨wr.heap.size, 0, none⟩ 1 1 [.int .u8 (bits .and .u8 (rem % 256) 127)] rfl rfl ?e1 ?e2 ?e3 ?e4 ?e5 ?_)
        try (case e1 => exact cell_one_new _ _ _)
        case e2 => simp [Value.oneCell']
        case e3 => unfold maxLen; omega
        case e4 => omega
        case e5 => have := hbel.size; simp; omega
        intro v' w1 hown1 hgrow _
        have hown2 : w1.ownsRow w.heap.size 5 1 v' (j + 1) (cellsOf (acc ++ [UInt8.ofNat (rem % 128).toNat])) := by
          rw [cellsOf_append, cellsOf_one, ← HB.out]; exact hown1
        have hbel1 : Below w.heap.size w w1 := by
          exact (hbel.alloc hbel.size _).grown hgrow (by have := hbel.size; simp; omega) (fun k hk => (hown.lt k hk).1)
        have hcv := run_convert_own (P := Tryz.prog) (src := 45) (dst := 9) Tryz.underlying45 Tryz.underlying5 Tryz.underlying9 hown2
        clear hown1 hgrow
        have HE := Lib.hid (show putS 10 n = acc ++ [UInt8.ofNat (rem % 128).toNat] by
          rw [HP.out, show 10 - j = (9 - j) + 1 by omega]
          simp only [putS, if_pos (show -64 ≤ rem ∧ rem < 64 by omega)])
        go_wp2
        go_ret
        exact ⟨by rw [HE.out]; rfl, hbel1⟩
end Go.Proofs.YteidhccnbfikcaaGreatDoor.Leb

/- LebLaws: What LEB128 written and read comes to, in plain Lean: read back, sizes, room. No condition beyond what each theorem names. -/
namespace Go.Proofs.YteidhccnbfikcaaGreatDoor.Leb
set_option linter.unusedVariables false

theorem putU_len (k n j : Nat) (h : n < 2 ^ (7 * (j + 1))) (hk : j + 1 ≤ k) : (putU k n).length ≤ j + 1 := by
  induction k generalizing n j with
  | zero => omega
  | succ k ih =>
    simp only [putU]
    split
    · simp
    · rename_i hn
      cases j with
      | zero => simp at h; omega
      | succ j =>
        have e : (2 : Nat) ^ (7 * (j + 1 + 1)) = 128 * 2 ^ (7 * (j + 1)) := by rw [Nat.mul_add 7 (j + 1), Nat.pow_add]; omega
        have := ih (n / 128) j (by omega) (by omega)
        simp only [List.length_cons]
        omega

theorem putS_len (k : Nat) (n : Int) (j : Nat) (h : -(2 ^ (7 * (j + 1)) : Int) ≤ 2 * n ∧ 2 * n < (2 ^ (7 * (j + 1)) : Int)) (hk : j + 1 ≤ k) : (putS k n).length ≤ j + 1 := by
  induction k generalizing n j with
  | zero => omega
  | succ k ih =>
    simp only [putS]
    split
    · simp
    · rename_i hn
      cases j with
      | zero => simp at h; omega
      | succ j =>
        have e : (2 : Int) ^ (7 * (j + 1 + 1)) = 128 * 2 ^ (7 * (j + 1)) := by rw [Nat.mul_add 7 (j + 1), Int.pow_add]; omega
        have e2 : (2 : Int) ^ (7 * (j + 1)) = 128 * 2 ^ (7 * j) := by rw [Nat.mul_add 7 j, Int.pow_add]; omega
        rw [e] at h
        have := ih (n / 128) j (by rw [e2] at h ⊢; omega) (by omega)
        simp only [List.length_cons]
        omega

/-- a number of at most 64 bits that stands among other bytes is found, if it is short enough -/
theorem scan_putU (n : Nat) (k : Nat) (more : List UInt8) (h : n < 2 ^ 64) (hk : k ≤ 10) :
    scan k (putU 10 n ++ more) = if (putU 10 n).length ≤ k then some (putU 10 n) else none := by
  obtain ⟨ini, last, h1, h2, h3, h4, _⟩ := putU_form 10 n (by omega) (by omega)
  rw [h1]
  simp only [List.append_assoc, List.singleton_append, List.length_append, List.length_singleton]
  split
  · rename_i hl
    exact scan_of h3 h2 (by omega)
  · rename_i hl
    exact scan_none_of h3 (.inl (by omega))

theorem scan_putS (n : Int) (k : Nat) (more : List UInt8) (h : -(2 ^ 63) ≤ n ∧ n < 2 ^ 63) (hk : k ≤ 10) :
    scan k (putS 10 n ++ more) = if (putS 10 n).length ≤ k then some (putS 10 n) else none := by
  obtain ⟨ini, last, h1, h2, h3, h4, _⟩ := putS_form 10 n (by omega) (by omega)
  rw [h1]
  simp only [List.append_assoc, List.singleton_append, List.length_append, List.length_singleton]
  split
  · rename_i hl
    exact scan_of h3 h2 (by omega)
  · rename_i hl
    exact scan_none_of h3 (.inl (by omega))

theorem putU_len10 (n : Nat) (h : n < 2 ^ 64) : (putU 10 n).length ≤ 10 := putU_len 10 n 9 (by omega) (by omega)
theorem putS_len10 (n : Int) (h : -(2 ^ 63) ≤ n ∧ n < 2 ^ 63) : (putS 10 n).length ≤ 10 := putS_len 10 n 9 (by omega) (by omega)
theorem putU_val (n : Nat) (h : n < 2 ^ 64) : val (putU 10 n) = n := by
  obtain ⟨_, _, _, _, _, _, h5⟩ := putU_form 10 n (by omega) (by omega)
  exact h5
theorem putS_val (n : Int) (h : -(2 ^ 63) ≤ n ∧ n < 2 ^ 63) : sval (putS 10 n) = n := by
  obtain ⟨_, _, _, _, _, _, h5⟩ := putS_form 10 n (by omega) (by omega)
  exact h5

theorem readU64_put (n : Nat) (more : List UInt8) (h : n < 2 ^ 64) : readU 64 (putU 10 n ++ more) = some (n, (putU 10 n).length) := by
  unfold readU
  rw [show (64 + 6) / 7 = 10 from rfl, scan_putU n 10 more h (by omega), if_pos (putU_len10 n h)]
  simp only [rdU, putU_val n h, if_pos h, Option.map_some]

theorem readS64_put (n : Int) (more : List UInt8) (h : -(2 ^ 63) ≤ n ∧ n < 2 ^ 63) : readS 64 (putS 10 n ++ more) = some (n, (putS 10 n).length) := by
  unfold readS
  rw [show (64 + 6) / 7 = 10 from rfl, scan_putS n 10 more h (by omega), if_pos (putS_len10 n h)]
  simp only [rdS, putS_val n h]
  rw [if_pos h]
  rfl

theorem readU32_put (n : Nat) (more : List UInt8) (h : n < 2 ^ 64) : readU 32 (putU 10 n ++ more) = if n < 2 ^ 32 then some (n, (putU 10 n).length) else none := by
  unfold readU
  rw [show (32 + 6) / 7 = 5 from rfl, scan_putU n 5 more h (by omega)]
  by_cases h32 : n < 2 ^ 32
  · rw [if_pos (putU_len 10 n 4 (by omega) (by omega)), if_pos h32]
    simp only [rdU, putU_val n h, if_pos h32, Option.map_some]
  · rw [if_neg h32]
    split
    · rfl
    · rename_i ds hds
      split at hds
      · simp only [Option.some.injEq] at hds
        subst hds
        simp only [rdU, putU_val n h, if_neg h32, Option.map_none]
      · cases hds

theorem readS32_put (n : Int) (more : List UInt8) (h : -(2 ^ 63) ≤ n ∧ n < 2 ^ 63) :
    readS 32 (putS 10 n ++ more) = if -(2 ^ 31) ≤ n ∧ n < 2 ^ 31 then some (n, (putS 10 n).length) else none := by
  unfold readS
  rw [show (32 + 6) / 7 = 5 from rfl, scan_putS n 5 more h (by omega)]
  by_cases h32 : -(2 ^ 31) ≤ n ∧ n < 2 ^ 31
  · rw [if_pos (putS_len 10 n 4 (by omega) (by omega)), if_pos h32]
    simp only [rdS, putS_val n h]
    rw [if_pos h32]
    rfl
  · rw [if_neg h32]
    split
    · rfl
    · rename_i ds hds
      split at hds
      · simp only [Option.some.injEq] at hds
        subst hds
        simp only [rdS, putS_val n h]
        rw [if_neg h32]
        rfl
      · cases hds

/-- in the middle of a text -/
theorem ansU_at (bits : Nat) (pre l : List UInt8) (p : Int) (hp : p = pre.length) :
    ansU bits (pre ++ l) p = match readU bits l with | none => (0, 0, 2) | some (v, n) => ((v : Int), p + n, 0) := by
  subst hp
  unfold ansU
  rw [if_neg (by simp; omega), Int.toNat_natCast, List.drop_left]
  first | done | (cases readU bits l <;> rfl)
theorem ansS_at (bits : Nat) (pre l : List UInt8) (p : Int) (hp : p = pre.length) :
    ansS bits (pre ++ l) p = match readS bits l with | none => (0, 0, 2) | some (v, n) => (v, p + n, 0) := by
  subst hp
  unfold ansS
  rw [if_neg (by simp; omega), Int.toNat_natCast, List.drop_left]
  first | done | (cases readS bits l <;> rfl)

theorem ansU64_put (n : Nat) (pre more : List UInt8) (p : Int) (hp : p = pre.length) (h : n < 2 ^ 64) :
    ansU 64 (pre ++ (putU 10 n ++ more)) p = ((n : Int), p + (putU 10 n).length, 0) := by
  rw [ansU_at 64 pre _ p hp, readU64_put n more h]
theorem ansS64_put (n : Int) (pre more : List UInt8) (p : Int) (hp : p = pre.length) (h : -(2 ^ 63) ≤ n ∧ n < 2 ^ 63) :
    ansS 64 (pre ++ (putS 10 n ++ more)) p = (n, p + (putS 10 n).length, 0) := by
  rw [ansS_at 64 pre _ p hp, readS64_put n more h]
theorem ansU32_put (n : Nat) (pre more : List UInt8) (p : Int) (hp : p = pre.length) (h : n < 2 ^ 64) :
    ansU 32 (pre ++ (putU 10 n ++ more)) p = if n < 2 ^ 32 then ((n : Int), p + (putU 10 n).length, 0) else (0, 0, 2) := by
  rw [ansU_at 32 pre _ p hp, readU32_put n more h]
  by_cases h1 : n < 2 ^ 32
  · rw [if_pos h1, if_pos h1]
  · rw [if_neg h1, if_neg h1]
theorem ansS32_put (n : Int) (pre more : List UInt8) (p : Int) (hp : p = pre.length) (h : -(2 ^ 63) ≤ n ∧ n < 2 ^ 63) :
    ansS 32 (pre ++ (putS 10 n ++ more)) p = if -(2 ^ 31) ≤ n ∧ n < 2 ^ 31 then (n, p + (putS 10 n).length, 0) else (0, 0, 2) := by
  rw [ansS_at 32 pre _ p hp, readS32_put n more h]
  by_cases h1 : -(2 ^ 31) ≤ n ∧ n < 2 ^ 31
  · rw [if_pos h1, if_pos h1]
  · rw [if_neg h1, if_neg h1]

/-- cut ahead of its last byte a number is none -/
theorem ansU_cut (n : Nat) (bits : Nat) (h : n < 2 ^ 64) : ansU bits ((putU 10 n).take ((putU 10 n).length - 1)) 0 = (0, 0, 2) := by
  obtain ⟨ini, last, h1, h2, h3, h4, _⟩ := putU_form 10 n (by omega) (by omega)
  rw [h1]
  have e : (ini ++ [last]).take ((ini ++ [last]).length - 1) = ini := by simp
  rw [e]
  have hs := scan_none_of (rest := []) (k := (bits + 6) / 7) h3 (.inr rfl)
  rw [List.append_nil] at hs
  have := ansU_at bits [] ini 0 rfl
  rw [List.nil_append] at this
  rw [this]
  unfold readU
  rw [hs]
theorem ansS_cut (n : Int) (bits : Nat) (h : -(2 ^ 63) ≤ n ∧ n < 2 ^ 63) : ansS bits ((putS 10 n).take ((putS 10 n).length - 1)) 0 = (0, 0, 2) := by
  obtain ⟨ini, last, h1, h2, h3, h4, _⟩ := putS_form 10 n (by omega) (by omega)
  rw [h1]
  have e : (ini ++ [last]).take ((ini ++ [last]).length - 1) = ini := by simp
  rw [e]
  have hs := scan_none_of (rest := []) (k := (bits + 6) / 7) h3 (.inr rfl)
  rw [List.append_nil] at hs
  have := ansS_at bits [] ini 0 rfl
  rw [List.nil_append] at this
  rw [this]
  unfold readS
  rw [hs]
theorem putU_pos (n : Nat) (h : n < 2 ^ 64) : 0 < (putU 10 n).length := by
  obtain ⟨ini, last, h1, _⟩ := putU_form 10 n (by omega) (by omega)
  rw [h1]; simp
theorem putS_pos (n : Int) (h : -(2 ^ 63) ≤ n ∧ n < 2 ^ 63) : 0 < (putS 10 n).length := by
  obtain ⟨ini, last, h1, _⟩ := putS_form 10 n (by omega) (by omega)
  rw [h1]; simp

/-- as many bytes as bits ask for -/
theorem putU_size (k n b : Nat) (h1 : n < 2 ^ b) (h2 : b = 0 ∨ 2 ^ (b - 1) ≤ n) (hb : b ≤ 7 * k) (hk : 0 < k) : (putU k n).length = (max b 1 + 6) / 7 := by
  induction k generalizing n b with
  | zero => omega
  | succ k ih =>
    simp only [putU]
    split
    · rename_i hn
      have : b ≤ 7 := by
        rcases h2 with h2 | h2
        · omega
        · rcases Nat.lt_or_ge 7 b with h3 | h3
          · have : (2 : Nat) ^ 7 ≤ 2 ^ (b - 1) := Nat.pow_le_pow_right (by decide) (by omega)
            omega
          · exact h3
      simp only [List.length_singleton]
      omega
    · rename_i hn
      have hb7 : 7 < b := by
        rcases Nat.lt_or_ge 7 b with h3 | h3
        · exact h3
        · have : (2 : Nat) ^ b ≤ 2 ^ 7 := Nat.pow_le_pow_right (by decide) h3
          omega
      obtain ⟨c, rfl⟩ : ∃ c, b = c + 7 + 1 := ⟨b - 8, by omega⟩
      have e : (2 : Nat) ^ (c + 7 + 1) = 128 * 2 ^ (c + 1) := by rw [show c + 7 + 1 = c + 1 + 7 by omega, Nat.pow_add]; omega
      have e2 : (2 : Nat) ^ (c + 7 + 1 - 1) = 128 * 2 ^ c := by rw [show c + 7 + 1 - 1 = c + 7 by omega, Nat.pow_add]; omega
      have := ih (n / 128) (c + 1) (by omega) (.inr (by simp; omega)) (by omega) (by omega)
      simp only [List.length_cons, this]
      omega

theorem putS_size (k : Nat) (n : Int) (b : Nat) (h1 : -(2 ^ b : Int) ≤ n ∧ n < (2 ^ b : Int)) (h2 : b = 0 ∨ n < -(2 ^ (b - 1) : Int) ∨ (2 ^ (b - 1) : Int) ≤ n) (hb : b + 1 ≤ 7 * k) (hk : 0 < k) :
    (putS k n).length = (b + 1 + 6) / 7 := by
  induction k generalizing n b with
  | zero => omega
  | succ k ih =>
    simp only [putS]
    split
    · rename_i hn
      have : b ≤ 6 := by
        rcases h2 with h2 | h2
        · omega
        · rcases Nat.lt_or_ge 6 b with h3 | h3
          · have : (2 : Int) ^ 6 ≤ 2 ^ (b - 1) := by exact_mod_cast Nat.pow_le_pow_right (show 0 < 2 by decide) (show 6 ≤ b - 1 by omega)
            omega
          · exact h3
      simp only [List.length_singleton]
      omega
    · rename_i hn
      have hb7 : 6 < b := by
        rcases Nat.lt_or_ge 6 b with h3 | h3
        · exact h3
        · have : (2 : Int) ^ b ≤ 2 ^ 6 := by exact_mod_cast Nat.pow_le_pow_right (show 0 < 2 by decide) h3
          omega
      obtain ⟨c, rfl⟩ : ∃ c, b = c + 7 := ⟨b - 7, by omega⟩
      have e : (2 : Int) ^ (c + 7) = 128 * 2 ^ c := by rw [Int.pow_add]; omega
      have := ih (n / 128) c (by omega) (by
        rcases Nat.eq_zero_or_pos c with h0 | h0
        · exact .inl h0
        · right
          obtain ⟨d, rfl⟩ : ∃ d, c = d + 1 := ⟨c - 1, by omega⟩
          have e2 : (2 : Int) ^ (d + 1 + 7 - 1) = 128 * 2 ^ d := by rw [show d + 1 + 7 - 1 = d + 7 by omega, Int.pow_add]; omega
          rw [e2] at h2
          simp only [Nat.add_sub_cancel]
          omega) (by omega) (by omega)
      simp only [List.length_cons, this]
      omega
end Go.Proofs.YteidhccnbfikcaaGreatDoor.Leb
