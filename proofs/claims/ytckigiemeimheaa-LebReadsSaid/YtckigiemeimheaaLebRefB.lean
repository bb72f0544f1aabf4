/-
  What the document's own take, U32, S32, U64 and S64 answer. No condition beyond what each theorem names.
-/
import Derived.Test.YtckigiemeimheaaLebRefA
import Derived.Test.YtckigiemeimheaaLebRefPlain
import Derived.Test.YtckigiemeimheaaLebTake
namespace Go.Proofs.Ytckigiemeimheaa.Leb
open Go.RowKit
set_option linter.unusedVariables false

/-- is there room? -/
def roomB (bits : Nat) (sign : Bool) (ds : List UInt8) : Bool := if sign then (rdS bits ds).isSome else (rdU bits ds).isSome

/-- what take answers -/
def refA (bits : Nat) (sign : Bool) (l : List UInt8) (at_ : Int) : Int × Int × Int :=
  if at_ < 0 ∨ (l.length : Int) < at_ then (0, 0, 1)
  else match scan ((bits + 6) / 7) (l.drop at_.toNat) with
    | none => (0, 0, 2)
    | some ds => if roomB bits sign ds then (zOf sign ds % 2 ^ bits, at_ + ds.length, 0) else (0, 0, 2)

theorem roomB_iff (bits : Nat) (sign : Bool) (ds : List UInt8) :
    roomB bits sign ds = true ↔ if sign = true then -(2 ^ (bits - 1) : Int) ≤ sval ds ∧ sval ds < (2 ^ (bits - 1) : Int) else val ds < 2 ^ bits := by
  cases sign
  · simp only [roomB, rdU, if_neg (show ¬ (false = true) by decide)]
    split <;> simp_all
  · simp only [roomB, rdS, if_true]
    split <;> simp_all

theorem size_at (s : ByteArray) (at_ m : Int) (w : World) (hs : s.size ≤ maxLen) (h0 : 0 ≤ at_) (h1 : at_ ≤ s.size) (hm0 : 0 ≤ m) (hm : m ≤ 10) (k : Nat) (hk : sizeA m.toNat (s.data.toList.drop at_.toNat) = k) :
    Calls Try.prog 31 #[.string s, .int .i64 at_, .int .i64 m] w fun e w' => e = .returned (.int .i64 (k : Int)) ∧ w = w' := by
  obtain ⟨p, rfl⟩ := Int.eq_ofNat_of_zero_le h0
  obtain ⟨j, rfl⟩ := Int.eq_ofNat_of_zero_le hm0
  refine (size_in s p j w hs (by omega) (by omega)).mono ?_
  rintro e w' ⟨rfl, rfl⟩
  have h' : sizeA j (s.data.toList.drop p) = k := hk
  rw [h']
  exact ⟨rfl, rfl⟩

/-- a bit of the number that stands from a place on -/
theorem bit_at (s : ByteArray) (at_ n : Int) (w : World) (hs : s.size ≤ maxLen) (h0 : 0 ≤ at_) (h1 : at_ ≤ s.size) (hn : 0 ≤ n) (sign : Bool) (ds : List UInt8) (m : Nat) (hm : m ≤ 10) (hsc : scan m (s.data.toList.drop at_.toNat) = some ds) (hlt : n < 7 * (ds.length : Int)) :
    Calls Try.prog 32 #[.string s, .int .i64 at_, .int .i64 n] w fun e w' => e = .returned (.int .i64 (zb (zOf sign ds) n.toNat)) ∧ w = w' := by
  obtain ⟨p, rfl⟩ := Int.eq_ofNat_of_zero_le h0
  obtain ⟨i, rfl⟩ := Int.eq_ofNat_of_zero_le hn
  have hsc' : scan m (s.data.toList.drop p) = some ds := hsc
  obtain ⟨ini, last, rest, hds, hl, hlast, hini, hlen⟩ := scan_some hsc'
  have hdl : ds.length = ini.length + 1 := by rw [hds]; simp
  have hi7 : i / 7 < ds.length := by omega
  have hpre : s.data.toList.drop p = ds ++ rest := by rw [hl, hds]; simp
  have hsz : p + ds.length ≤ s.size := by
    have := congrArg List.length hpre
    rw [List.length_drop, List.length_append] at this
    have e : s.data.toList.length = s.size := rfl
    omega
  have hget : s[p + i / 7]'(by omega) = ds[i / 7] := by
    have h3 : (s.data.toList.drop p)[i / 7]'(by rw [hpre, List.length_append]; omega) = ds[i / 7] := by
      simp only [hpre]
      rw [List.getElem_append_left hi7]
    rw [← h3, List.getElem_drop]
    rfl
  refine (bit_in s p i w hs (by omega) (by omega)).mono ?_
  rintro e w' ⟨rfl, rfl⟩
  refine ⟨?_, rfl⟩
  rw [hget, zOf_bit sign ds i hi7]
  rfl
end Go.Proofs.Ytckigiemeimheaa.Leb
