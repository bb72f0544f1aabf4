/-
  What package module's Text answers of an instruction without labels. No condition beyond what each theorem names.
-/
import Derived.Test.YtkemaonhchklmaaGreatDoorModRight
import Derived.Deep.RegionWith
import Derived.Lib.ItoaLen
namespace Go.Proofs.YtkemaonhchklmaaGreatDoor.Mod
open Go.RowKit Go.Maps Go.Proofs.YtkemaonhchklmaaGreatDoor.Op Go.Sort
set_option linter.unusedVariables false
/-- what Text reads besides -/
def PowEnv (w : World) : Prop := Lib.TabIs Tryz.prog w "internal/strconv.uint64pow10" .u64 Lib.pow10Tab
theorem PowEnv.later {w w' : World} (h : PowEnv w) (c : Below w.heap.size w w') : PowEnv w' := by
  unfold PowEnv at *
  have hg : Tryz.prog.globalNamed "internal/strconv.uint64pow10" = some 3 := by kernel_rfl
  have h0 := h.cell hg 0 (of_decide_eq_true (by kernel_rfl))
  exact Go.var?_below c hg (World.block_lt_of_cell? _ _ h0) h
theorem below_grow (w : World) (os : Array Obj) (k : Nat) : Below w.heap.size w (grow (w.drewN k) os) := by
  refine ⟨rfl, rfl, rfl, ?_, fun b hb => ?_⟩
  · show w.heap.size ≤ (w.heap ++ os).size
    simp
  · show (w.heap ++ os)[b]? = w.heap[b]?
    rw [Array.getElem?_append_left hb]
def StrS (w : World) (l : List UInt8) (e : Ending) (w' : World) : Prop := e = .returned (.string ⟨l.toArray⟩) ∧ Below w.heap.size w w'
/-- a text, one word more -/
def sayB (out what : ByteArray) (n : Int) : ByteArray := out ++ (⟨#[32]⟩ ++ what ++ ⟨(Lib.itoa n).toArray⟩)
set_option maxRecDepth 100000 in
set_option maxHeartbeats 4000000 in
theorem say_any (out what : ByteArray) (n : Int) (b : Nat) (w : World) (hP : PowEnv w) (h0 : -9223372036854775808 ≤ n) (h1 : n ≤ 9223372036854775807) (ho : out.size ≤ 1000000000000) (hw : what.size ≤ 100) (hb : w.heap[b]? = some (.cells #[.string out] 9 (0, 0))) :
    Calls Tryz.prog 41 #[.string what, .int .i64 n, .pointer (some ⟨b, 0, none⟩)] w fun e w' => e = .returned (.tuple #[]) ∧ Keeps (fun k => k = b) w w' ∧ w'.heap[b]? = some (.cells #[.string (sayB out what n)] 9 (0, 0)) := by
  have hlt := (Array.getElem?_eq_some_iff.1 hb).1
  have c0 : w.cell? ⟨b, 0, none⟩ = some (.string out) := cell_of_row _ _ _ _ _ _ hb
  have f0 : w.frozen? ⟨b, 0, none⟩ = false := frozen_of_row _ _ _ _ _ hb
  have HC := Lib.hid (fun (W : World) (hB : Below w.heap.size w W) => (show Calls Tryz.prog 42 #[.int .i64 n, .int .i64 10] W fun e w' => e = .returned (.string ⟨(Lib.itoa n).toArray⟩) ∧ Below W.heap.size W w' from (Tryz.strconv_FormatInt_10 n h0 h1 W (hP.later hB)).mono fun e w' hh => ⟨hh.1, by obtain ⟨_, k, os, rfl⟩ := hh; exact below_grow W os k⟩))
  have hits : (⟨(Lib.itoa n).toArray⟩ : ByteArray).size ≤ 30 := by
    have := Lib.itoa_length_le n h0 h1
    show (Lib.itoa n).toArray.size ≤ 30
    rw [List.size_toArray]
    omega
  obtain ⟨T, hT⟩ : ∃ T : ByteArray, (⟨(Lib.itoa n).toArray⟩ : ByteArray) = T := ⟨_, rfl⟩
  unfold sayB
  rw [hT] at HC hits ⊢
  have HB := Lib.hid hb
  clear hT hP hb
  go_enter Tryz.func41, Tryz.ntmps41
  go_wp2_with fail
  go_region_with ((go_at_call 42; refine (HC.out _ ?_).mono ?_; (first | exact (Below.refl _ _).drew | exact (Below.refl _ _)); rintro e w1 ⟨rfl, c1⟩; have q1 : w1.cell? ⟨b, 0, none⟩ = some (.string out) := cell_later c1 c0; have g1 : w1.frozen? ⟨b, 0, none⟩ = false := (c1.frozen (p := ⟨b, 0, none⟩) hlt).trans f0))
  all_goals
    have cb : Below w.heap.size w w1 := by first | exact c1 | exact (Below.refl _ _).drew.trans c1
    have HK := Lib.hid ((Keeps.of_below (F := fun k => k = b) cb).trans (Keeps.setCell (F := fun k => k = b) w1 ⟨b, 0, none⟩ (.string (out ++ (⟨#[32]⟩ ++ what ++ T))) rfl) (fun j hj => .inl hj))
    have HX := Lib.hid (box_set (h := (cb.block b hlt).trans HB.out) 0 (.string (out ++ (⟨#[32]⟩ ++ what ++ T))))
    clear c1 q1 g1 cb
    go_end0
    exact ⟨rfl, HK.out, HX.out⟩
end Go.Proofs.YtkemaonhchklmaaGreatDoor.Mod
