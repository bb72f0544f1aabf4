/-
  What package op's Float answers. No condition beyond what each theorem names.
-/
import Derived.Test.YteidhccnbfikcaaGreatDoorOpW
namespace Go.Proofs.YteidhccnbfikcaaGreatDoor.Op
open Go.RowKit Go.Maps
set_option linter.unusedVariables false
def floatR : List (Int × Int) := [(42, 43), (56, 57), (67, 68), (91, 102), (139, 166), (168, 171), (174, 191)]
def floatB (c : Int) : Bool := floatR.any fun r => decide (r.1 ≤ c) && decide (c ≤ r.2)
theorem float_no (c : Int) (h : ∀ j, j < 7 → ∀ r, floatR[j]? = some r → ¬ (r.1 ≤ c ∧ c ≤ r.2)) : floatB c = false := by
  unfold floatB
  rw [List.any_eq_false]
  intro r hr
  obtain ⟨j, hj⟩ := List.getElem?_of_mem hr
  have hl : j < 7 := (List.getElem?_eq_some_iff.1 hj).1
  have := h j hl r hj
  simpa using this
theorem float_yes (c : Int) (j : Nat) (r : Int × Int) (hj : floatR[j]? = some r) (h1 : r.1 ≤ c) (h2 : c ≤ r.2) : floatB c = true := by
  unfold floatB
  rw [List.any_eq_true]
  exact ⟨r, List.mem_of_getElem? hj, by simp [h1, h2]⟩
def RelF (w : World) (c : Int) (i : Value) (wr : World) : Prop := ∃ k : Nat, k ≤ 7 ∧ i = .int .i64 k ∧ (∀ j, j < k → ∀ r, floatR[j]? = some r → ¬ (r.1 ≤ c ∧ c ≤ r.2)) ∧ Below w.heap.size w wr ∧
  Below (w.heap.size + 1) (w.alloc (.cells #[.int .i64 42, .int .i64 43, .int .i64 56, .int .i64 57, .int .i64 67, .int .i64 68, .int .i64 91, .int .i64 102, .int .i64 139, .int .i64 166, .int .i64 168, .int .i64 171, .int .i64 174, .int .i64 191] 239)) wr
set_option maxRecDepth 100000 in
set_option maxHeartbeats 4000000 in
theorem float_any (c : Int) (w : World) :
    Calls Tryz.prog 155 #[.int .i64 c] w fun e w' => e = .returned (.bool (floatB c)) ∧ Below w.heap.size w w' := by
  go_enter Tryz.func155, Tryz.ntmps155
  go_wp2_with fail
  go_loopw [14] (fun i wr => RelF w c i wr) (fun i _ => 7 - (intOf i).toNat)
  case atStart => exact ⟨0, by omega, rfl, fun j hj => by omega, (Below.refl _ _).alloc (Nat.le_refl _) _, Below.refl _ _⟩
  case round =>
    obtain ⟨k, hk, rfl, hno, hb, hb2⟩ := hrel
    have hsz : w.heap.size < wr.heap.size := by have := hb2.size; simp at this; omega
    rcases (show k = 0 ∨ k = 1 ∨ k = 2 ∨ k = 3 ∨ k = 4 ∨ k = 5 ∨ k = 6 ∨ k = 7 by omega) with rfl | rfl | rfl | rfl | rfl | rfl | rfl | rfl
    · have c0 : wr.cell? ⟨w.heap.size, 0, none⟩ = some (.int .i64 42) := (hb2.cell (p := ⟨w.heap.size, 0, none⟩) (by simp)).trans (by simp)
      have c1 : wr.cell? ⟨w.heap.size, 1, none⟩ = some (.int .i64 43) := (hb2.cell (p := ⟨w.heap.size, 1, none⟩) (by simp)).trans (by simp)
      have HNO := Lib.hid hno
      clear hno
      rcases (show c < 42 ∨ (42 ≤ c ∧ c ≤ 43) ∨ 43 < c by omega) with h | ⟨h, h2⟩ | h
      · have d1 : decide (42 ≤ c) = false := decide_eq_false (by omega)
        go_wp2_with fail
        go_roundw
        case rel => exact ⟨1, by omega, by go_num, fun j hj r hr => by rcases (show j < 0 ∨ j = 0 by omega) with h9 | rfl; exact HNO.out j h9 r hr; obtain rfl := Option.some.inj (hr.symm.trans (show floatR[0]? = some (42, 43) from rfl)); simp; omega, hb.alloc hb.size _, hb2.alloc (by omega) _⟩
        case measure => simp [intOf]
      · have d1 : decide (42 ≤ c) = true := decide_eq_true h
        have d2 : decide (c ≤ 43) = true := decide_eq_true h2
        go_wp2_with fail
        go_ret
        rw [float_yes c 0 (42, 43) rfl h h2]
        exact ⟨rfl, hb.alloc hb.size _⟩
      · have d1 : decide (42 ≤ c) = true := decide_eq_true (by omega)
        have d2 : decide (c ≤ 43) = false := decide_eq_false (by omega)
        go_wp2_with fail
        go_roundw
        case rel => exact ⟨1, by omega, by go_num, fun j hj r hr => by rcases (show j < 0 ∨ j = 0 by omega) with h9 | rfl; exact HNO.out j h9 r hr; obtain rfl := Option.some.inj (hr.symm.trans (show floatR[0]? = some (42, 43) from rfl)); simp; omega, hb.alloc hb.size _, hb2.alloc (by omega) _⟩
        case measure => simp [intOf]
    · have c0 : wr.cell? ⟨w.heap.size, 2, none⟩ = some (.int .i64 56) := (hb2.cell (p := ⟨w.heap.size, 2, none⟩) (by simp)).trans (by simp)
      have c1 : wr.cell? ⟨w.heap.size, 3, none⟩ = some (.int .i64 57) := (hb2.cell (p := ⟨w.heap.size, 3, none⟩) (by simp)).trans (by simp)
      have HNO := Lib.hid hno
      clear hno
      rcases (show c < 56 ∨ (56 ≤ c ∧ c ≤ 57) ∨ 57 < c by omega) with h | ⟨h, h2⟩ | h
      · have d1 : decide (56 ≤ c) = false := decide_eq_false (by omega)
        go_wp2_with fail
        go_roundw
        case rel => exact ⟨2, by omega, by go_num, fun j hj r hr => by rcases (show j < 1 ∨ j = 1 by omega) with h9 | rfl; exact HNO.out j h9 r hr; obtain rfl := Option.some.inj (hr.symm.trans (show floatR[1]? = some (56, 57) from rfl)); simp; omega, hb.alloc hb.size _, hb2.alloc (by omega) _⟩
        case measure => simp [intOf]
      · have d1 : decide (56 ≤ c) = true := decide_eq_true h
        have d2 : decide (c ≤ 57) = true := decide_eq_true h2
        go_wp2_with fail
        go_ret
        rw [float_yes c 1 (56, 57) rfl h h2]
        exact ⟨rfl, hb.alloc hb.size _⟩
      · have d1 : decide (56 ≤ c) = true := decide_eq_true (by omega)
        have d2 : decide (c ≤ 57) = false := decide_eq_false (by omega)
        go_wp2_with fail
        go_roundw
        case rel => exact ⟨2, by omega, by go_num, fun j hj r hr => by rcases (show j < 1 ∨ j = 1 by omega) with h9 | rfl; exact HNO.out j h9 r hr; obtain rfl := Option.some.inj (hr.symm.trans (show floatR[1]? = some (56, 57) from rfl)); simp; omega, hb.alloc hb.size _, hb2.alloc (by omega) _⟩
        case measure => simp [intOf]
    · have c0 : wr.cell? ⟨w.heap.size, 4, none⟩ = some (.int .i64 67) := (hb2.cell (p := ⟨w.heap.size, 4, none⟩) (by simp)).trans (by simp)
      have c1 : wr.cell? ⟨w.heap.size, 5, none⟩ = some (.int .i64 68) := (hb2.cell (p := ⟨w.heap.size, 5, none⟩) (by simp)).trans (by simp)
      have HNO := Lib.hid hno
      clear hno
      rcases (show c < 67 ∨ (67 ≤ c ∧ c ≤ 68) ∨ 68 < c by omega) with h | ⟨h, h2⟩ | h
      · have d1 : decide (67 ≤ c) = false := decide_eq_false (by omega)
        go_wp2_with fail
        go_roundw
        case rel => exact ⟨3, by omega, by go_num, fun j hj r hr => by rcases (show j < 2 ∨ j = 2 by omega) with h9 | rfl; exact HNO.out j h9 r hr; obtain rfl := Option.some.inj (hr.symm.trans (show floatR[2]? = some (67, 68) from rfl)); simp; omega, hb.alloc hb.size _, hb2.alloc (by omega) _⟩
        case measure => simp [intOf]
      · have d1 : decide (67 ≤ c) = true := decide_eq_true h
        have d2 : decide (c ≤ 68) = true := decide_eq_true h2
        go_wp2_with fail
        go_ret
        rw [float_yes c 2 (67, 68) rfl h h2]
        exact ⟨rfl, hb.alloc hb.size _⟩
      · have d1 : decide (67 ≤ c) = true := decide_eq_true (by omega)
        have d2 : decide (c ≤ 68) = false := decide_eq_false (by omega)
        go_wp2_with fail
        go_roundw
        case rel => exact ⟨3, by omega, by go_num, fun j hj r hr => by rcases (show j < 2 ∨ j = 2 by omega) with h9 | rfl; exact HNO.out j h9 r hr; obtain rfl := Option.some.inj (hr.symm.trans (show floatR[2]? = some (67, 68) from rfl)); simp; omega, hb.alloc hb.size _, hb2.alloc (by omega) _⟩
        case measure => simp [intOf]
    · have c0 : wr.cell? ⟨w.heap.size, 6, none⟩ = some (.int .i64 91) := (hb2.cell (p := ⟨w.heap.size, 6, none⟩) (by simp)).trans (by simp)
      have c1 : wr.cell? ⟨w.heap.size, 7, none⟩ = some (.int .i64 102) := (hb2.cell (p := ⟨w.heap.size, 7, none⟩) (by simp)).trans (by simp)
      have HNO := Lib.hid hno
      clear hno
      rcases (show c < 91 ∨ (91 ≤ c ∧ c ≤ 102) ∨ 102 < c by omega) with h | ⟨h, h2⟩ | h
      · have d1 : decide (91 ≤ c) = false := decide_eq_false (by omega)
        go_wp2_with fail
        go_roundw
        case rel => exact ⟨4, by omega, by go_num, fun j hj r hr => by rcases (show j < 3 ∨ j = 3 by omega) with h9 | rfl; exact HNO.out j h9 r hr; obtain rfl := Option.some.inj (hr.symm.trans (show floatR[3]? = some (91, 102) from rfl)); simp; omega, hb.alloc hb.size _, hb2.alloc (by omega) _⟩
        case measure => simp [intOf]
      · have d1 : decide (91 ≤ c) = true := decide_eq_true h
        have d2 : decide (c ≤ 102) = true := decide_eq_true h2
        go_wp2_with fail
        go_ret
        rw [float_yes c 3 (91, 102) rfl h h2]
        exact ⟨rfl, hb.alloc hb.size _⟩
      · have d1 : decide (91 ≤ c) = true := decide_eq_true (by omega)
        have d2 : decide (c ≤ 102) = false := decide_eq_false (by omega)
        go_wp2_with fail
        go_roundw
        case rel => exact ⟨4, by omega, by go_num, fun j hj r hr => by rcases (show j < 3 ∨ j = 3 by omega) with h9 | rfl; exact HNO.out j h9 r hr; obtain rfl := Option.some.inj (hr.symm.trans (show floatR[3]? = some (91, 102) from rfl)); simp; omega, hb.alloc hb.size _, hb2.alloc (by omega) _⟩
        case measure => simp [intOf]
    · have c0 : wr.cell? ⟨w.heap.size, 8, none⟩ = some (.int .i64 139) := (hb2.cell (p := ⟨w.heap.size, 8, none⟩) (by simp)).trans (by simp)
      have c1 : wr.cell? ⟨w.heap.size, 9, none⟩ = some (.int .i64 166) := (hb2.cell (p := ⟨w.heap.size, 9, none⟩) (by simp)).trans (by simp)
      have HNO := Lib.hid hno
      clear hno
      rcases (show c < 139 ∨ (139 ≤ c ∧ c ≤ 166) ∨ 166 < c by omega) with h | ⟨h, h2⟩ | h
      · have d1 : decide (139 ≤ c) = false := decide_eq_false (by omega)
        go_wp2_with fail
        go_roundw
        case rel => exact ⟨5, by omega, by go_num, fun j hj r hr => by rcases (show j < 4 ∨ j = 4 by omega) with h9 | rfl; exact HNO.out j h9 r hr; obtain rfl := Option.some.inj (hr.symm.trans (show floatR[4]? = some (139, 166) from rfl)); simp; omega, hb.alloc hb.size _, hb2.alloc (by omega) _⟩
        case measure => simp [intOf]
      · have d1 : decide (139 ≤ c) = true := decide_eq_true h
        have d2 : decide (c ≤ 166) = true := decide_eq_true h2
        go_wp2_with fail
        go_ret
        rw [float_yes c 4 (139, 166) rfl h h2]
        exact ⟨rfl, hb.alloc hb.size _⟩
      · have d1 : decide (139 ≤ c) = true := decide_eq_true (by omega)
        have d2 : decide (c ≤ 166) = false := decide_eq_false (by omega)
        go_wp2_with fail
        go_roundw
        case rel => exact ⟨5, by omega, by go_num, fun j hj r hr => by rcases (show j < 4 ∨ j = 4 by omega) with h9 | rfl; exact HNO.out j h9 r hr; obtain rfl := Option.some.inj (hr.symm.trans (show floatR[4]? = some (139, 166) from rfl)); simp; omega, hb.alloc hb.size _, hb2.alloc (by omega) _⟩
        case measure => simp [intOf]
    · have c0 : wr.cell? ⟨w.heap.size, 10, none⟩ = some (.int .i64 168) := (hb2.cell (p := ⟨w.heap.size, 10, none⟩) (by simp)).trans (by simp)
      have c1 : wr.cell? ⟨w.heap.size, 11, none⟩ = some (.int .i64 171) := (hb2.cell (p := ⟨w.heap.size, 11, none⟩) (by simp)).trans (by simp)
      have HNO := Lib.hid hno
      clear hno
      rcases (show c < 168 ∨ (168 ≤ c ∧ c ≤ 171) ∨ 171 < c by omega) with h | ⟨h, h2⟩ | h
      · have d1 : decide (168 ≤ c) = false := decide_eq_false (by omega)
        go_wp2_with fail
        go_roundw
        case rel => exact ⟨6, by omega, by go_num, fun j hj r hr => by rcases (show j < 5 ∨ j = 5 by omega) with h9 | rfl; exact HNO.out j h9 r hr; obtain rfl := Option.some.inj (hr.symm.trans (show floatR[5]? = some (168, 171) from rfl)); simp; omega, hb.alloc hb.size _, hb2.alloc (by omega) _⟩
        case measure => simp [intOf]
      · have d1 : decide (168 ≤ c) = true := decide_eq_true h
        have d2 : decide (c ≤ 171) = true := decide_eq_true h2
        go_wp2_with fail
        go_ret
        rw [float_yes c 5 (168, 171) rfl h h2]
        exact ⟨rfl, hb.alloc hb.size _⟩
      · have d1 : decide (168 ≤ c) = true := decide_eq_true (by omega)
        have d2 : decide (c ≤ 171) = false := decide_eq_false (by omega)
        go_wp2_with fail
        go_roundw
        case rel => exact ⟨6, by omega, by go_num, fun j hj r hr => by rcases (show j < 5 ∨ j = 5 by omega) with h9 | rfl; exact HNO.out j h9 r hr; obtain rfl := Option.some.inj (hr.symm.trans (show floatR[5]? = some (168, 171) from rfl)); simp; omega, hb.alloc hb.size _, hb2.alloc (by omega) _⟩
        case measure => simp [intOf]
    · have c0 : wr.cell? ⟨w.heap.size, 12, none⟩ = some (.int .i64 174) := (hb2.cell (p := ⟨w.heap.size, 12, none⟩) (by simp)).trans (by simp)
      have c1 : wr.cell? ⟨w.heap.size, 13, none⟩ = some (.int .i64 191) := (hb2.cell (p := ⟨w.heap.size, 13, none⟩) (by simp)).trans (by simp)
      have HNO := Lib.hid hno
      clear hno
      rcases (show c < 174 ∨ (174 ≤ c ∧ c ≤ 191) ∨ 191 < c by omega) with h | ⟨h, h2⟩ | h
      · have d1 : decide (174 ≤ c) = false := decide_eq_false (by omega)
        go_wp2_with fail
        go_roundw
        case rel => exact ⟨7, by omega, by go_num, fun j hj r hr => by rcases (show j < 6 ∨ j = 6 by omega) with h9 | rfl; exact HNO.out j h9 r hr; obtain rfl := Option.some.inj (hr.symm.trans (show floatR[6]? = some (174, 191) from rfl)); simp; omega, hb.alloc hb.size _, hb2.alloc (by omega) _⟩
        case measure => simp [intOf]
      · have d1 : decide (174 ≤ c) = true := decide_eq_true h
        have d2 : decide (c ≤ 191) = true := decide_eq_true h2
        go_wp2_with fail
        go_ret
        rw [float_yes c 6 (174, 191) rfl h h2]
        exact ⟨rfl, hb.alloc hb.size _⟩
      · have d1 : decide (174 ≤ c) = true := decide_eq_true (by omega)
        have d2 : decide (c ≤ 191) = false := decide_eq_false (by omega)
        go_wp2_with fail
        go_roundw
        case rel => exact ⟨7, by omega, by go_num, fun j hj r hr => by rcases (show j < 6 ∨ j = 6 by omega) with h9 | rfl; exact HNO.out j h9 r hr; obtain rfl := Option.some.inj (hr.symm.trans (show floatR[6]? = some (174, 191) from rfl)); simp; omega, hb.alloc hb.size _, hb2.alloc (by omega) _⟩
        case measure => simp [intOf]
    · have HF := Lib.hid (float_no c (fun j hj => hno j hj))
      clear hno
      go_wp2_with fail
      go_ret
      rw [HF.out]
      exact ⟨rfl, hb⟩
end Go.Proofs.YteidhccnbfikcaaGreatDoor.Op
