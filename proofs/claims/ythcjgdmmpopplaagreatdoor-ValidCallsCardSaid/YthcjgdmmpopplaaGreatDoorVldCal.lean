/-
  A call: what its module is, whether it is valid. Plain (all of at most 8 value types, by the kernel).
-/
import Derived.Test.YthcjgdmmpopplaaGreatDoorVldMk
namespace Go.Proofs.YthcjgdmmpopplaaGreatDoor.Vld
open Go.RowKit Go.Maps Go.Lib Go.Proofs.YthcjgdmmpopplaaGreatDoor.Op Go.Proofs.YthcjgdmmpopplaaGreatDoor.Mod Go.Proofs.YthcjgdmmpopplaaGreatDoor.Pg
set_option linter.unusedVariables false
def conI (b : Bool) : Ins := ⟨if b then 66 else 65, 0, 0⟩
def parL (bs : List Bool) : List UInt8 := bs.map fun b => if b then 126 else 127
def calC (bs : List Bool) (how : Nat) : List Ins :=
  if how = 1 then bs.map conI ++ [⟨16, 2, 0⟩, ⟨11, 0, 0⟩] else if how = 2 then (bs.drop 1).map conI ++ [⟨16, 1, 0⟩, ⟨11, 0, 0⟩]
  else if how = 3 then (match bs with | [] => [] | b :: bs => conI (!b) :: bs.map conI) ++ [⟨16, 1, 0⟩, ⟨11, 0, 0⟩] else bs.map conI ++ [⟨16, 1, 0⟩, ⟨11, 0, 0⟩]
def calM (ps : ByteArray) (c : List Ins) : ModP := ⟨[⟨⟨#[]⟩, ⟨#[126]⟩⟩, ⟨ps, ⟨#[126]⟩⟩], [⟨0, ⟨#[]⟩, c.map toL⟩, ⟨1, ⟨#[]⟩, [⟨66, 0, 0, []⟩, ⟨11, 0, 0, []⟩]⟩], [], [], [], -1, []⟩
def calW (bs : List Bool) (how : Nat) : Int := if how = 0 then 0 else if how = 1 then 4 else if bs = [] then 0 else 4
def bitsOf : Nat → Nat → List Bool
  | 0, _ => []
  | n + 1, k => (k % 2 == 1) :: bitsOf n (k / 2)
def calOk (n k how : Nat) : Bool := moduleE (calM ⟨(parL (bitsOf n k)).toArray⟩ (calC (bitsOf n k) how)) == calW (bitsOf n k) how
def calAll (n how : Nat) : Bool := (List.range (2 ^ n)).all fun k => calOk n k how
theorem cal_5 : ((List.range 6).all fun n => (List.range 4).all fun how => calAll n how) = true := by kernel_rfl
theorem cal_6 : ((List.range 4).all fun how => calAll 6 how) = true := by kernel_rfl
theorem cal_7a : (calAll 7 0 && calAll 7 1) = true := by kernel_rfl
theorem cal_7b : (calAll 7 2 && calAll 7 3) = true := by kernel_rfl
theorem cal_8a : calAll 8 0 = true := by kernel_rfl
theorem cal_8b : calAll 8 1 = true := by kernel_rfl
theorem cal_8c : calAll 8 2 = true := by kernel_rfl
theorem cal_8d : calAll 8 3 = true := by kernel_rfl
theorem bits_all : ∀ bs : List Bool, ∃ k, k < 2 ^ bs.length ∧ bitsOf bs.length k = bs
  | [] => ⟨0, by decide, rfl⟩
  | b :: bs => by
    obtain ⟨k, h1, h2⟩ := bits_all bs
    refine ⟨2 * k + (if b then 1 else 0), ?_, ?_⟩
    · rw [List.length_cons, Nat.pow_succ]
      cases b <;> simp <;> omega
    · show ((2 * k + (if b then 1 else 0)) % 2 == 1) :: bitsOf bs.length ((2 * k + (if b then 1 else 0)) / 2) = b :: bs
      rw [show (2 * k + (if b then 1 else 0)) / 2 = k by cases b <;> simp <;> omega, h2]
      congr 1
      cases b <;> simp <;> omega
theorem law_call (bs : List Bool) (hl : bs.length ≤ 8) (how : Nat) (hh : how < 4) : moduleE (calM ⟨(parL bs).toArray⟩ (calC bs how)) = calW bs how := by
  obtain ⟨k, h1, h2⟩ := bits_all bs
  have hA : calAll bs.length how = true := by
    rcases (show bs.length < 6 ∨ bs.length = 6 ∨ bs.length = 7 ∨ bs.length = 8 by omega) with h | h | h | h
    · exact List.all_eq_true.1 (List.all_eq_true.1 cal_5 bs.length (List.mem_range.2 h)) how (List.mem_range.2 hh)
    · rw [h]; exact List.all_eq_true.1 cal_6 how (List.mem_range.2 hh)
    · rw [h]
      have a := cal_7a
      have b := cal_7b
      rw [Bool.and_eq_true] at a b
      rcases (show how = 0 ∨ how = 1 ∨ how = 2 ∨ how = 3 by omega) with rfl | rfl | rfl | rfl
      · exact a.1
      · exact a.2
      · exact b.1
      · exact b.2
    · rw [h]
      rcases (show how = 0 ∨ how = 1 ∨ how = 2 ∨ how = 3 by omega) with rfl | rfl | rfl | rfl
      · exact cal_8a
      · exact cal_8b
      · exact cal_8c
      · exact cal_8d
  have h3 := List.all_eq_true.1 hA k (List.mem_range.2 h1)
  unfold calOk at h3
  rw [h2, beq_iff_eq] at h3
  exact h3
end Go.Proofs.YthcjgdmmpopplaaGreatDoor.Vld
