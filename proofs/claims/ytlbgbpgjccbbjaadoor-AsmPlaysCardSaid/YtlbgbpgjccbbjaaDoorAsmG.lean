/-
  What package asm's New does. No condition beyond what each theorem names.
-/
import Derived.Test.YtlbgbpgjccbbjaaDoorAsmF
import Derived.Shelf.Strings.SlTrimAscii
namespace Go.Proofs.YtlbgbpgjccbbjaaDoor.Asm
open Go.RowKit Go.Maps Go.Proofs.YtlbgbpgjccbbjaaDoor.Op
set_option linter.unusedVariables false
theorem trim_any (s : ByteArray) (w : World) (hs : s.size ≤ 9223372036854775807) :
    Calls Tryd.prog 40 #[.string s, .string ⟨#[127, 126]⟩] w fun e w' => e = .returned (.string ⟨(Lib.trimS s.data.toList [127, 126]).toArray⟩) ∧ Below w.heap.size w w' :=
  Go.Proofs.Any.strings_Trim_laid Go.Proofs.Tryd.lays160 (by kernel_rfl) s ⟨#[127, 126]⟩ w hs (by decide) (Go.Proofs.ascii_of_all (by decide))
theorem drop_all (p : UInt8 → Bool) : ∀ r : List UInt8, (∀ x ∈ r.dropWhile p, p x = true) → ∀ x ∈ r, p x = true
  | [], _ => by simp
  | a :: r, h => by
    cases ha : p a
    · rw [List.dropWhile_cons, ha] at h
      have := h a (by simp)
      rw [ha] at this
      cases this
    · rw [List.dropWhile_cons, ha] at h
      intro x hx
      rcases List.mem_cons.1 hx with rfl | hx
      · exact ha
      · exact drop_all p r (by simpa using h) x hx
theorem dropWhile_nil (p : UInt8 → Bool) : ∀ r : List UInt8, r.dropWhile p = [] ↔ ∀ x ∈ r, p x = true
  | [] => by simp
  | a :: r => by
    rw [List.dropWhile_cons]
    cases ha : p a
    · simp [ha]
    · simp [ha, dropWhile_nil p r]
theorem trim_nil (l cs : List UInt8) : Lib.trimS l cs = [] ↔ ∀ b ∈ l, cs.contains b = true := by
  unfold Lib.trimS Lib.trimLeftS Lib.trimRightS
  rw [dropWhile_nil]
  constructor
  · intro h b hb
    exact drop_all _ l.reverse (fun x hx => h x (List.mem_reverse.2 hx)) b (List.mem_reverse.2 hb)
  · intro h b hb
    exact h b (List.mem_reverse.1 ((List.dropWhile_sublist _).mem (List.mem_reverse.1 hb)))
def newOk (l : List UInt8) : Bool := decide (l.length ≤ 64) && l.all fun b => b == 127 || b == 126
theorem newOk_trim {l : List UInt8} (h : newOk l = true) : l.length ≤ 64 ∧ Lib.trimS l [127, 126] = [] := by
  simp only [newOk, Bool.and_eq_true, decide_eq_true_eq, List.all_eq_true] at h
  exact ⟨h.1, (trim_nil _ _).2 fun b hb => by have := h.2 b hb; simpa using this⟩
theorem newOk_not {l : List UInt8} (h : newOk l = false) (h2 : l.length ≤ 64) : Lib.trimS l [127, 126] ≠ [] := fun ht => by
  rw [trim_nil] at ht
  have : newOk l = true := by
    simp only [newOk, Bool.and_eq_true, decide_eq_true_eq, List.all_eq_true]
    exact ⟨h2, fun b hb => by have := ht b hb; simpa using this⟩
  rw [this] at h
  cases h
theorem BAt.base {w : World} {B B' bb : Nat} {x : Bx} {n : Nat} {s : St} (h : BAt w B bb x n s) (hB : B' ≤ B) : BAt w B' bb x n s :=
  ⟨h.box, Nat.le_trans hB h.low, h.loc.mono hB, h.cod.mono hB, h.ope.mono hB, Nat.le_trans hB h.mlow, h.nam⟩
/-- a new Builder -/
def MadeB (w : World) (p : Nat) (e : Ending) (w' : World) : Prop := ∃ bb x, e = .returned (.tuple #[.pointer (some ⟨bb, 0, none⟩), .int .i64 0]) ∧ BAt w' w.heap.size bb x 0 ⟨p, [], [], []⟩ ∧ Below w.heap.size w w'
set_option maxRecDepth 100000 in
set_option maxHeartbeats 1000000 in
theorem new_bad (params : ByteArray) (w : World) (hs : params.size ≤ maxLen) (h : newOk params.data.toList = false) :
    Calls Tryd.prog 23 #[.string params] w fun e w' => e = .returned (.tuple #[.pointer none, .int .i64 1]) ∧ Below w.heap.size w w' := by
  by_cases hl : params.size ≤ 64
  · have hd : decide (64 < params.size) = false := decide_eq_false (by omega)
    have ht := newOk_not h (by rw [Array.length_toList]; exact hl)
    obtain ⟨c, t, hc⟩ : ∃ c t, Lib.trimS params.data.toList [127, 126] = c :: t := List.exists_cons_of_ne_nil ht
    have HC := Lib.hid hc
    clear h ht hc
    go_enter Tryd.func23, Tryd.ntmps23
    go_wp2_with fail
    refine (trim_any params w (by unfold maxLen at hs; omega)).mono ?_
    rintro e w1 ⟨rfl, hb⟩
    rw [HC.out]
    have hq : ((⟨(c :: t).toArray⟩ : ByteArray).toList == (⟨#[]⟩ : ByteArray).toList) = false := by rw [ByteArray.toList_eq, ByteArray.toList_eq]; simp
    have HB := Lib.hid hb
    clear hb
    go_wp2_with fail
    go_ret2
    exact ⟨rfl, HB.out⟩
  · have hd : decide (64 < params.size) = true := decide_eq_true (by omega)
    clear h
    go_enter Tryd.func23, Tryd.ntmps23
    go_wp2_with fail
    go_ret2
    exact ⟨rfl, Below.refl _ _⟩
set_option maxRecDepth 100000 in
set_option maxHeartbeats 1000000 in
theorem new_ok (params : ByteArray) (w : World) (h : newOk params.data.toList = true) :
    Calls Tryd.prog 23 #[.string params] w (MadeB w params.size) := by
  obtain ⟨hl, ht⟩ := newOk_trim h
  rw [Array.length_toList] at hl
  have hl2 : params.size ≤ 64 := hl
  have hd : decide (64 < params.size) = false := decide_eq_false (by omega)
  have hmm := @run_makeMap Tryd.prog
  have HT := Lib.hid ht
  clear h ht hl
  go_enter Tryd.func23, Tryd.ntmps23
  go_wp2_with fail
  refine (trim_any params w (by omega)).mono ?_
  rintro e w1 ⟨rfl, hb⟩
  rw [HT.out]
  have HB := Lib.hid hb
  clear hb
  go_wp2_with fail
  go_ret2
  have B2 : Below w.heap.size w (w1.alloc (.map #[] 0)) := HB.out.alloc HB.out.size _
  have hs := HB.out.size
  refine ⟨w1.heap.size + 1, ⟨.slice none 0 0, .slice none 0 0, .slice none 0 0, w1.heap.size⟩, rfl, ⟨?_, by omega, World.ownsRow_nil _ _ _ _, World.ownsRow_nil _ _ _ _, World.ownsRow_nil _ _ _ _, hs, .map [], (World.ownsMap_made w1 Tryd.prog 9 asIs).alloc _, ?_⟩, B2.alloc B2.size _⟩
  · have h1 := heap_alloc_new (w1.alloc (.map #[] 0)) (.cells #[.int .i64 params.size, .slice none 0 0, .slice none 0 0, .slice none 0 0, .map (some w1.heap.size)] 88)
    rw [show (w1.alloc (.map #[] 0)).heap.size = w1.heap.size + 1 by simp] at h1
    exact h1
  · intro nm hm
    rw [Maps.has_eq] at hm
    simp at hm
end Go.Proofs.YtlbgbpgjccbbjaaDoor.Asm
