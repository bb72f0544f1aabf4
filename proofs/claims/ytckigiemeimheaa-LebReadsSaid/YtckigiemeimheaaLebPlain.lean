/-
  LEB128 in plain Lean, no program in sight: what the bytes of a number are, what number some bytes are, and that one undoes the other. No condition.
-/
import Derived.Laws.Bits64b
import Derived.Laws.BitsLemmas
namespace Go.Proofs.Ytckigiemeimheaa.Leb

/-- the number that bytes of seven bits make -/
def val : List UInt8 → Nat
  | [] => 0
  | b :: bs => b.toNat % 128 + 128 * val bs

/-- the bytes up to the first one below 128, at most k of them -/
def scan : Nat → List UInt8 → Option (List UInt8)
  | 0, _ => none
  | _ + 1, [] => none
  | k + 1, b :: bs => if b.toNat < 128 then some [b] else (scan k bs).map (b :: ·)

theorem val_lt (l : List UInt8) : val l < 2 ^ (7 * l.length) := by
  induction l with
  | nil => simp [val]
  | cons b l ih =>
    simp only [val, List.length_cons]
    have e : (2 : Nat) ^ (7 * (l.length + 1)) = 128 * 2 ^ (7 * l.length) := by rw [Nat.mul_add, Nat.pow_add]; omega
    rw [e]
    have := Nat.mod_lt b.toNat (show 0 < 128 by decide)
    omega

theorem val_append (l r : List UInt8) : val (l ++ r) = val l + 2 ^ (7 * l.length) * val r := by
  induction l with
  | nil => simp [val]
  | cons b l ih =>
    simp only [val, List.cons_append, List.length_cons, ih]
    have e : (2 : Nat) ^ (7 * (l.length + 1)) = 128 * 2 ^ (7 * l.length) := by rw [Nat.mul_add, Nat.pow_add]; omega
    rw [e, Nat.mul_add, Nat.mul_assoc]
    omega

theorem val_snoc (l : List UInt8) (b : UInt8) : val (l ++ [b]) = val l + b.toNat % 128 * 2 ^ (7 * l.length) := by
  rw [val_append, Nat.mul_comm]; simp [val]

/-- what is found: bytes of 128 and more, then one below -/
theorem scan_some {k : Nat} {l ds : List UInt8} (h : scan k l = some ds) :
    ∃ ini last rest, ds = ini ++ [last] ∧ l = ini ++ last :: rest ∧ last.toNat < 128 ∧ (∀ b ∈ ini, 128 ≤ b.toNat) ∧ ini.length < k := by
  induction k generalizing l ds with
  | zero => simp [scan] at h
  | succ k ih =>
    cases l with
    | nil => simp [scan] at h
    | cons b bs =>
      simp only [scan] at h
      split at h
      · rename_i hb
        simp only [Option.some.injEq] at h
        subst h
        exact ⟨[], b, bs, rfl, rfl, hb, by simp, by simp⟩
      · rename_i hb
        simp only [Option.map_eq_some_iff] at h
        obtain ⟨ds', h1, rfl⟩ := h
        obtain ⟨ini, last, rest, rfl, rfl, h2, h3, h4⟩ := ih h1
        refine ⟨b :: ini, last, rest, rfl, rfl, h2, ?_, by simp; omega⟩
        intro x hx
        rcases List.mem_cons.1 hx with rfl | hx
        · omega
        · exact h3 x hx

theorem scan_of {ini rest : List UInt8} {last : UInt8} {k : Nat} (h1 : ∀ b ∈ ini, 128 ≤ b.toNat) (h2 : last.toNat < 128) (h3 : ini.length < k) :
    scan k (ini ++ last :: rest) = some (ini ++ [last]) := by
  induction ini generalizing k with
  | nil =>
    cases k with
    | zero => simp at h3
    | succ k => simp [scan, h2]
  | cons b ini ih =>
    cases k with
    | zero => simp at h3
    | succ k =>
      have hb : ¬ b.toNat < 128 := by have := h1 b (by simp); omega
      simp only [List.cons_append, scan, hb, if_false]
      rw [ih (fun x hx => h1 x (by simp [hx])) (by simp at h3; omega)]
      rfl

/-- nothing is found: too many, or they end ahead of the last one -/
theorem scan_none_of {ini rest : List UInt8} {k : Nat} (h1 : ∀ b ∈ ini, 128 ≤ b.toNat) (h2 : k ≤ ini.length ∨ rest = []) : scan k (ini ++ rest) = none := by
  induction ini generalizing k with
  | nil =>
    cases k with
    | zero => simp [scan]
    | succ k =>
      rcases h2 with h2 | rfl
      · simp at h2
      · simp [scan]
  | cons b ini ih =>
    cases k with
    | zero => simp [scan]
    | succ k =>
      have hb : ¬ b.toNat < 128 := by have := h1 b (by simp); omega
      simp only [List.cons_append, scan, hb, if_false]
      rw [ih (fun x hx => h1 x (by simp [hx])) (by simpa using h2)]
      rfl

/-- the last of some bytes -/
def lastB (ds : List UInt8) : UInt8 := ds.getLastD 0
theorem lastB_snoc (l : List UInt8) (b : UInt8) : lastB (l ++ [b]) = b := by simp [lastB]

/-- the number of some bytes with a sign -/
def sval (ds : List UInt8) : Int :=
  (val ds : Int) - if 64 ≤ (ds.getLastD 0).toNat % 128 then 2 ^ (7 * ds.length) else 0

/-- what is read of bytes: without a sign, with one -/
def rdU (bits : Nat) (ds : List UInt8) : Option Nat := if val ds < 2 ^ bits then some (val ds) else none
def rdS (bits : Nat) (ds : List UInt8) : Option Int :=
  if -(2 ^ (bits - 1) : Int) ≤ sval ds ∧ sval ds < (2 ^ (bits - 1) : Int) then some (sval ds) else none

/-- the bytes of a number without a sign, with one: so many at the most -/
def putU : Nat → Nat → List UInt8
  | 0, _ => []
  | k + 1, n => if n < 128 then [UInt8.ofNat n] else UInt8.ofNat (n % 128 + 128) :: putU k (n / 128)
def putS : Nat → Int → List UInt8
  | 0, _ => []
  | k + 1, n => if -64 ≤ n ∧ n < 64 then [UInt8.ofNat (n % 128).toNat] else UInt8.ofNat ((n % 128).toNat + 128) :: putS k (n / 128)

theorem toNat_ofNat {n : Nat} (h : n < 256) : (UInt8.ofNat n).toNat = n := by
  rw [UInt8.toNat_ofNat']; omega

theorem putU_form (k n : Nat) (h : n < 2 ^ (7 * k)) (hk : 0 < k) :
    ∃ ini last, putU k n = ini ++ [last] ∧ last.toNat < 128 ∧ (∀ b ∈ ini, 128 ≤ b.toNat) ∧ ini.length < k ∧ val (putU k n) = n := by
  induction k generalizing n with
  | zero => omega
  | succ k ih =>
    simp only [putU]
    split
    · rename_i hn
      refine ⟨[], UInt8.ofNat n, rfl, ?_, by simp, by simp, ?_⟩
      · rw [toNat_ofNat (by omega)]; exact hn
      · simp only [val]; rw [toNat_ofNat (by omega)]; omega
    · rename_i hn
      cases k with
      | zero => simp at h; omega
      | succ k =>
        have e : (2 : Nat) ^ (7 * (k + 1 + 1)) = 128 * 2 ^ (7 * (k + 1)) := by rw [Nat.mul_add 7 (k + 1), Nat.pow_add]; omega
        obtain ⟨ini, last, h1, h2, h3, h4, h5⟩ := ih (n / 128) (by omega) (by omega)
        have hb : (UInt8.ofNat (n % 128 + 128)).toNat = n % 128 + 128 := toNat_ofNat (by omega)
        refine ⟨UInt8.ofNat (n % 128 + 128) :: ini, last, by rw [h1]; rfl, h2, ?_, by simp; omega, ?_⟩
        · intro x hx
          rcases List.mem_cons.1 hx with rfl | hx
          · omega
          · exact h3 x hx
        · simp only [val, h5, hb]; omega

theorem getLastD_snoc (l : List UInt8) (b d : UInt8) : (l ++ [b]).getLastD d = b := by simp

theorem sval_cons (b : UInt8) (l : List UInt8) (hl : l ≠ []) : sval (b :: l) = (b.toNat % 128 : Nat) + 128 * sval l := by
  have hg : (b :: l).getLastD 0 = l.getLastD 0 := by
    cases l with
    | nil => exact absurd rfl hl
    | cons c l => simp [List.getLastD, List.getLast_cons]
  have e : (2 : Int) ^ (7 * (l.length + 1)) = 128 * 2 ^ (7 * l.length) := by rw [Nat.mul_add, Int.pow_add]; omega
  unfold sval
  rw [hg, List.length_cons, e]
  simp only [val]
  split <;> omega

theorem putS_form (k : Nat) (n : Int) (h : -(2 ^ (7 * k) : Int) ≤ 2 * n ∧ 2 * n < (2 ^ (7 * k) : Int)) (hk : 0 < k) :
    ∃ ini last, putS k n = ini ++ [last] ∧ last.toNat < 128 ∧ (∀ b ∈ ini, 128 ≤ b.toNat) ∧ ini.length < k ∧ sval (putS k n) = n := by
  induction k generalizing n with
  | zero => omega
  | succ k ih =>
    simp only [putS]
    split
    · rename_i hn
      have hb : (UInt8.ofNat (n % 128).toNat).toNat = (n % 128).toNat := toNat_ofNat (by omega)
      refine ⟨[], UInt8.ofNat (n % 128).toNat, rfl, ?_, by simp, by simp, ?_⟩
      · rw [hb]; omega
      · simp only [sval, val, List.length_cons, List.length_nil, List.getLastD_cons, List.getLastD_nil, hb]
        split <;> omega
    · rename_i hn
      cases k with
      | zero => simp at h; omega
      | succ k =>
        have e : (2 : Int) ^ (7 * (k + 1 + 1)) = 128 * 2 ^ (7 * (k + 1)) := by rw [Nat.mul_add 7 (k + 1), Int.pow_add]; omega
        have e2 : (2 : Int) ^ (7 * (k + 1)) = 128 * 2 ^ (7 * k) := by rw [Nat.mul_add 7 k, Int.pow_add]; omega
        rw [e] at h
        obtain ⟨ini, last, h1, h2, h3, h4, h5⟩ := ih (n / 128) (by rw [e2] at h ⊢; omega) (by omega)
        have hb : (UInt8.ofNat ((n % 128).toNat + 128)).toNat = (n % 128).toNat + 128 := toNat_ofNat (by omega)
        refine ⟨UInt8.ofNat ((n % 128).toNat + 128) :: ini, last, by rw [h1]; rfl, h2, ?_, by simp; omega, ?_⟩
        · intro x hx
          rcases List.mem_cons.1 hx with rfl | hx
          · omega
          · exact h3 x hx
        · rw [sval_cons _ _ (by rw [h1]; simp), h5, hb]; omega


def readU (bits : Nat) (l : List UInt8) : Option (Nat × Nat) :=
  match scan ((bits + 6) / 7) l with
  | none => none
  | some ds => (rdU bits ds).map fun v => (v, ds.length)
def readS (bits : Nat) (l : List UInt8) : Option (Int × Nat) :=
  match scan ((bits + 6) / 7) l with
  | none => none
  | some ds => (rdS bits ds).map fun v => (v, ds.length)

/-- the number, the place behind, the error -/
def ansU (bits : Nat) (l : List UInt8) (at_ : Int) : Int × Int × Int :=
  if at_ < 0 ∨ (l.length : Int) < at_ then (0, 0, 1)
  else match readU bits (l.drop at_.toNat) with
    | none => (0, 0, 2)
    | some (v, n) => ((v : Int), at_ + n, 0)
def ansS (bits : Nat) (l : List UInt8) (at_ : Int) : Int × Int × Int :=
  if at_ < 0 ∨ (l.length : Int) < at_ then (0, 0, 1)
  else match readS bits (l.drop at_.toNat) with
    | none => (0, 0, 2)
    | some (v, n) => (v, at_ + n, 0)

/-- a byte below 128 as a number of seven bits with a sign -/
def s7 (l : Nat) : Int := (l : Int) - if 64 ≤ l then 128 else 0

theorem val_last (ini : List UInt8) (last : UInt8) (h : last.toNat < 128) : val (ini ++ [last]) = val ini + last.toNat * 2 ^ (7 * ini.length) := by
  rw [val_snoc, Nat.mod_eq_of_lt h]

theorem sval_last (ini : List UInt8) (last : UInt8) (h : last.toNat < 128) : sval (ini ++ [last]) = (val ini : Int) + s7 last.toNat * 2 ^ (7 * ini.length) := by
  unfold sval s7
  rw [val_last _ _ h, getLastD_snoc, Nat.mod_eq_of_lt h, List.length_append, List.length_singleton]
  have e : (2 : Int) ^ (7 * (ini.length + 1)) = 128 * 2 ^ (7 * ini.length) := by rw [Nat.mul_add, Int.pow_add]; omega
  have ec : ((2 : Int) ^ (7 * ini.length)) = ((2 ^ (7 * ini.length) : Nat) : Int) := by rw [Int.natCast_pow]; rfl
  rw [e, Int.natCast_add, Int.natCast_mul, ec]
  generalize ((2 ^ (7 * ini.length) : Nat) : Int) = A
  split
  · rw [Int.sub_mul]; omega
  · simp

/-- room: what the last byte may be -/
theorem room_u (ini : List UInt8) (last : UInt8) (h : last.toNat < 128) (r : Nat) : val (ini ++ [last]) < 2 ^ (7 * ini.length + r) ↔ last.toNat < 2 ^ r := by
  rw [val_last _ _ h, Nat.pow_add]
  have hv := val_lt ini
  generalize (2 : Nat) ^ (7 * ini.length) = A at *
  generalize (2 : Nat) ^ r = B at *
  constructor
  · intro hlt
    rcases Nat.lt_or_ge last.toNat B with h1 | h1
    · exact h1
    · have := Nat.mul_le_mul_right A h1
      rw [Nat.mul_comm B A] at this
      omega
  · intro hlt
    have := Nat.mul_le_mul_right A (show last.toNat + 1 ≤ B from hlt)
    rw [Nat.mul_comm B A, Nat.add_mul] at this
    omega

theorem room_s (ini : List UInt8) (last : UInt8) (h : last.toNat < 128) (r : Nat) :
    (-(2 ^ (7 * ini.length + r) : Int) ≤ sval (ini ++ [last]) ∧ sval (ini ++ [last]) < (2 ^ (7 * ini.length + r) : Int)) ↔ (-(2 ^ r : Int) ≤ s7 last.toNat ∧ s7 last.toNat < (2 ^ r : Int)) := by
  rw [sval_last _ _ h, Int.pow_add]
  have hv : (val ini : Int) < 2 ^ (7 * ini.length) := by have := val_lt ini; exact_mod_cast this
  have hv0 : (0 : Int) ≤ val ini := Int.natCast_nonneg _
  generalize (2 : Int) ^ (7 * ini.length) = A at *
  generalize (2 : Int) ^ r = B at *
  generalize s7 last.toNat = S at *
  generalize (val ini : Int) = V at *
  have hA : 0 < A := by omega
  constructor
  · rintro ⟨h1, h2⟩
    constructor
    · rcases Int.lt_or_le S (-B) with h3 | h3
      · have := Int.mul_le_mul_of_nonneg_right (show S + 1 ≤ -B by omega) (Int.le_of_lt hA)
        rw [Int.add_mul, Int.neg_mul, Int.mul_comm B A] at this
        omega
      · exact h3
    · rcases Int.lt_or_le S B with h3 | h3
      · exact h3
      · have := Int.mul_le_mul_of_nonneg_right h3 (Int.le_of_lt hA)
        rw [Int.mul_comm B A] at this
        omega
  · rintro ⟨h1, h2⟩
    constructor
    · have := Int.mul_le_mul_of_nonneg_right h1 (Int.le_of_lt hA)
      rw [Int.neg_mul, Int.mul_comm B A] at this
      omega
    · have := Int.mul_le_mul_of_nonneg_right (show S + 1 ≤ B by omega) (Int.le_of_lt hA)
      rw [Int.add_mul, Int.mul_comm B A] at this
      omega

/-- a short one has room always -/
theorem short_s (ini : List UInt8) (last : UInt8) (h : last.toNat < 128) :
    -(2 ^ (7 * ini.length + 6) : Int) ≤ sval (ini ++ [last]) ∧ sval (ini ++ [last]) < (2 ^ (7 * ini.length + 6) : Int) := by
  rw [room_s ini last h 6]
  unfold s7
  split <;> omega
end Go.Proofs.Ytckigiemeimheaa.Leb
