/-
  Types and values of chapter 10, asked by the program and by the reference: the same answers. No condition beyond what each theorem names.
-/
import Derived.Test.YtekpdcofjhdiiaaGreatDoorValText
import Derived.Test.YtekpdcofjhdiiaaGreatDoorProg
import Derived.WalkKit
import Derived.Below
import Derived.Lib.Hide
namespace Go.Proofs.YtekpdcofjhdiiaaGreatDoor.Val
open Go.RowKit
set_option linter.unusedVariables false
set_option linter.unusedSimpArgs false
theorem below1 (w : World) (o : Obj) : Below w.heap.size w (w.alloc o) := (Below.refl _ _).alloc (Nat.le_refl _) _
theorem below2 (w : World) (o o' : Obj) : Below w.heap.size w ((w.alloc o).alloc o') := (below1 w o).alloc (by simp) _
theorem sEmpty {s : ByteArray} (h : s.size = 0) : s = ⟨#[]⟩ := by
  cases s
  rename_i d
  have h2 : d.size = 0 := h
  rw [Array.size_eq_zero_iff.1 h2]
theorem sFull {s : ByteArray} (h : s.size ≠ 0) : (s.toList == []) = false := by
  rw [ByteArray.toList_eq, beq_eq_false_iff_ne]
  intro h2
  apply h
  have h3 := congrArg List.length h2
  simpa using h3
theorem cell_later {w w' : World} (hb : Below w.heap.size w w') {b j : Nat} {v : Value} (h : w.cell? ⟨b, j, none⟩ = some v) : w'.cell? ⟨b, j, none⟩ = some v :=
  (hb.cell (p := ⟨b, j, none⟩) (World.block_lt_of_cell? w _ h)).trans h
def BoolS (w : World) (b : Bool) (e : Ending) (w' : World) : Prop := e = .returned (.bool b) ∧ Below w.heap.size w w'

set_option maxRecDepth 100000 in
set_option maxHeartbeats 2000000 in
theorem ty_any (k s : Int) (w : World) (b : Bool) (hb : tyB ⟨k, s⟩ = b) : Calls Tryz.prog 49 #[.agg #[.int .i64 k, .int .i64 s]] w (BoolS w b) := by
  have HB := Lib.hid hb
  clear hb
  rcases (show k = 2 ∨ k = 1 ∨ k = 3 ∨ k = 4 ∨ (k ≠ 1 ∧ k ≠ 2 ∧ k ≠ 3 ∧ k ≠ 4) by omega) with rfl | rfl | rfl | rfl | ⟨k1, k2, k3, k4⟩
  · by_cases h1 : 1 ≤ s
    · by_cases h2 : s ≤ 9
      · obtain rfl : b = true := by rw [← HB.out]; simp [tyB, h1, h2]
        have d1 : decide (1 ≤ s) = true := decide_eq_true h1
        have d2 : decide (s ≤ 9) = true := decide_eq_true h2
        go_enter Tryz.func49, Tryz.ntmps49
        go_wp2_with fail
        go_ret
        exact ⟨rfl, below1 _ _⟩
      · obtain rfl : b = false := by rw [← HB.out]; simp [tyB, h1, h2]
        have d1 : decide (1 ≤ s) = true := decide_eq_true h1
        have d2 : decide (s ≤ 9) = false := decide_eq_false h2
        go_enter Tryz.func49, Tryz.ntmps49
        go_wp2_with fail
        go_ret
        exact ⟨rfl, below1 _ _⟩
    · obtain rfl : b = false := by rw [← HB.out]; simp [tyB, h1]
      have d1 : decide (1 ≤ s) = false := decide_eq_false h1
      go_enter Tryz.func49, Tryz.ntmps49
      go_wp2_with fail
      go_ret
      exact ⟨rfl, below1 _ _⟩
  · obtain rfl : b = (s == 0) := by rw [← HB.out]; simp [tyB]
    cases hs : (s == 0)
    all_goals
      go_enter Tryz.func49, Tryz.ntmps49
      go_wp2_with fail
      go_ret
      exact ⟨by simp, below1 _ _⟩
  · obtain rfl : b = (s == 0) := by rw [← HB.out]; simp [tyB]
    cases hs : (s == 0)
    all_goals
      go_enter Tryz.func49, Tryz.ntmps49
      go_wp2_with fail
      go_ret
      exact ⟨by simp, below1 _ _⟩
  · obtain rfl : b = (s == 0) := by rw [← HB.out]; simp [tyB]
    cases hs : (s == 0)
    all_goals
      go_enter Tryz.func49, Tryz.ntmps49
      go_wp2_with fail
      go_ret
      exact ⟨by simp, below1 _ _⟩
  · obtain rfl : b = false := by rw [← HB.out]; simp [tyB, k1, k2, k3, k4]
    have e1 : (k == 1) = false := beq_eq_false_iff_ne.2 k1
    have e2 : (k == 2) = false := beq_eq_false_iff_ne.2 k2
    have e3 : (k == 3) = false := beq_eq_false_iff_ne.2 k3
    have e4 : (k == 4) = false := beq_eq_false_iff_ne.2 k4
    clear k1 k2 k3 k4
    go_enter Tryz.func49, Tryz.ntmps49
    go_wp2_with fail
    go_ret
    exact ⟨rfl, below1 _ _⟩
set_option maxRecDepth 100000 in
set_option maxHeartbeats 2000000 in
theorem rty_any (k s : Int) (w : World) (b : Bool) (hb : tyB ⟨k, s⟩ = b) : Calls Tryz.prog 50 #[.agg #[.int .i64 k, .int .i64 s]] w (BoolS w b) := by
  have HB := Lib.hid hb
  clear hb
  rcases (show k = 2 ∨ k = 1 ∨ k = 3 ∨ k = 4 ∨ (k ≠ 1 ∧ k ≠ 2 ∧ k ≠ 3 ∧ k ≠ 4) by omega) with rfl | rfl | rfl | rfl | ⟨k1, k2, k3, k4⟩
  · by_cases h1 : 1 ≤ s
    · by_cases h2 : s ≤ 9
      · obtain rfl : b = true := by rw [← HB.out]; simp [tyB, h1, h2]
        have d1 : decide (1 ≤ s) = true := decide_eq_true h1
        have d2 : decide (s ≤ 9) = true := decide_eq_true h2
        go_enter Tryz.func50, Tryz.ntmps50
        go_wp2_with fail
        go_ret
        exact ⟨rfl, below1 _ _⟩
      · obtain rfl : b = false := by rw [← HB.out]; simp [tyB, h1, h2]
        have d1 : decide (1 ≤ s) = true := decide_eq_true h1
        have d2 : decide (s ≤ 9) = false := decide_eq_false h2
        go_enter Tryz.func50, Tryz.ntmps50
        go_wp2_with fail
        go_ret
        exact ⟨rfl, below1 _ _⟩
    · obtain rfl : b = false := by rw [← HB.out]; simp [tyB, h1]
      have d1 : decide (1 ≤ s) = false := decide_eq_false h1
      go_enter Tryz.func50, Tryz.ntmps50
      go_wp2_with fail
      go_ret
      exact ⟨rfl, below1 _ _⟩
  · obtain rfl : b = (s == 0) := by rw [← HB.out]; simp [tyB]
    cases hs : (s == 0)
    all_goals
      go_enter Tryz.func50, Tryz.ntmps50
      go_wp2_with fail
      go_ret
      exact ⟨by simp, below1 _ _⟩
  · obtain rfl : b = (s == 0) := by rw [← HB.out]; simp [tyB]
    cases hs : (s == 0)
    all_goals
      go_enter Tryz.func50, Tryz.ntmps50
      go_wp2_with fail
      go_ret
      exact ⟨by simp, below1 _ _⟩
  · obtain rfl : b = (s == 0) := by rw [← HB.out]; simp [tyB]
    cases hs : (s == 0)
    all_goals
      go_enter Tryz.func50, Tryz.ntmps50
      go_wp2_with fail
      go_ret
      exact ⟨by simp, below1 _ _⟩
  · obtain rfl : b = false := by rw [← HB.out]; simp [tyB, k1, k2, k3, k4]
    have e1 : (k == 1) = false := beq_eq_false_iff_ne.2 k1
    have e2 : (k == 2) = false := beq_eq_false_iff_ne.2 k2
    have e3 : (k == 3) = false := beq_eq_false_iff_ne.2 k3
    have e4 : (k == 4) = false := beq_eq_false_iff_ne.2 k4
    clear k1 k2 k3 k4
    go_enter Tryz.func50, Tryz.ntmps50
    go_wp2_with fail
    go_ret
    exact ⟨rfl, below1 _ _⟩
set_option maxRecDepth 100000 in
set_option maxHeartbeats 4000000 in
theorem fits_any (k s : Int) (nu vn : Bool) (n : Int) (S : ByteArray) (w : World) (b : Bool) (hb : fitsB ⟨k, s⟩ nu ⟨vn, n, S⟩ = b) : Calls Tryz.prog 21 #[.agg #[.int .i64 k, .int .i64 s], .bool nu, .agg #[.bool vn, .int .i64 n, .string S]] w (BoolS w b) := by
  have HB := Lib.hid hb
  clear hb
  cases ht : tyB ⟨k, s⟩
  · have HT := Lib.hid ht
    obtain rfl : b = false := by rw [← HB.out]; simp [fitsB, ht]
    clear ht
    go_enter Tryz.func21, Tryz.ntmps21
    go_wp2_with fail
    refine (ty_any _ _ _ _ HT.out).mono ?_
    rintro e w1 ⟨rfl, c1⟩
    have C1 := Lib.hid c1
    have q0 : w1.cell? ⟨w.heap.size, 0, none⟩ = some (.int .i64 k) := cell_later c1 (by simp)
    have r0 : w1.cell? ⟨w.heap.size + 1, 0, none⟩ = some (.bool vn) := cell_later c1 (by simp)
    have r1 : w1.cell? ⟨w.heap.size + 1, 1, none⟩ = some (.int .i64 n) := cell_later c1 (by simp)
    have r2 : w1.cell? ⟨w.heap.size + 1, 2, none⟩ = some (.string S) := cell_later c1 (by simp)
    clear c1
    go_wp2_with fail
    go_ret
    exact ⟨rfl, (below2 _ _ _).trans (C1.out.mono (by simp; omega))⟩
  · have HT := Lib.hid ht
    cases vn
    · by_cases hk : k = 3
      · subst hk
        cases hn : (n == 0)
        · have hn0 : ¬ n = 0 := fun h => by rw [h] at hn; cases hn
          obtain rfl : b = false := by rw [← HB.out]; simp [fitsB, ht, hn0]
          clear hn0
          clear ht
          go_enter Tryz.func21, Tryz.ntmps21
          go_wp2_with fail
          refine (ty_any _ _ _ _ HT.out).mono ?_
          rintro e w1 ⟨rfl, c1⟩
          have C1 := Lib.hid c1
          have q0 : w1.cell? ⟨w.heap.size, 0, none⟩ = some (.int .i64 3) := cell_later c1 (by simp)
          have r0 : w1.cell? ⟨w.heap.size + 1, 0, none⟩ = some (.bool false) := cell_later c1 (by simp)
          have r1 : w1.cell? ⟨w.heap.size + 1, 1, none⟩ = some (.int .i64 n) := cell_later c1 (by simp)
          have r2 : w1.cell? ⟨w.heap.size + 1, 2, none⟩ = some (.string S) := cell_later c1 (by simp)
          clear c1
          go_wp2_with fail
          go_ret
          exact ⟨rfl, (below2 _ _ _).trans (C1.out.mono (by simp; omega))⟩
        · have hn0 : n = 0 := by simpa using hn
          subst hn0
          by_cases hz : S.size ≤ 200
          · have d : decide ((S.size : Int) ≤ 200) = true := decide_eq_true (by omega)
            obtain rfl : b = true := by rw [← HB.out]; simp [fitsB, ht, hz]
            clear ht
            go_enter Tryz.func21, Tryz.ntmps21
            go_wp2_with fail
            refine (ty_any _ _ _ _ HT.out).mono ?_
            rintro e w1 ⟨rfl, c1⟩
            have C1 := Lib.hid c1
            have q0 : w1.cell? ⟨w.heap.size, 0, none⟩ = some (.int .i64 3) := cell_later c1 (by simp)
            have r0 : w1.cell? ⟨w.heap.size + 1, 0, none⟩ = some (.bool false) := cell_later c1 (by simp)
            have r1 : w1.cell? ⟨w.heap.size + 1, 1, none⟩ = some (.int .i64 0) := cell_later c1 (by simp)
            have r2 : w1.cell? ⟨w.heap.size + 1, 2, none⟩ = some (.string S) := cell_later c1 (by simp)
            clear c1
            go_wp2_with fail
            go_ret
            exact ⟨rfl, (below2 _ _ _).trans (C1.out.mono (by simp; omega))⟩
          · have d : decide ((S.size : Int) ≤ 200) = false := decide_eq_false (by omega)
            obtain rfl : b = false := by rw [← HB.out]; simp [fitsB, ht, hz]
            clear ht
            go_enter Tryz.func21, Tryz.ntmps21
            go_wp2_with fail
            refine (ty_any _ _ _ _ HT.out).mono ?_
            rintro e w1 ⟨rfl, c1⟩
            have C1 := Lib.hid c1
            have q0 : w1.cell? ⟨w.heap.size, 0, none⟩ = some (.int .i64 3) := cell_later c1 (by simp)
            have r0 : w1.cell? ⟨w.heap.size + 1, 0, none⟩ = some (.bool false) := cell_later c1 (by simp)
            have r1 : w1.cell? ⟨w.heap.size + 1, 1, none⟩ = some (.int .i64 0) := cell_later c1 (by simp)
            have r2 : w1.cell? ⟨w.heap.size + 1, 2, none⟩ = some (.string S) := cell_later c1 (by simp)
            clear c1
            go_wp2_with fail
            go_ret
            exact ⟨rfl, (below2 _ _ _).trans (C1.out.mono (by simp; omega))⟩
      · have e3 : (k == 3) = false := beq_eq_false_iff_ne.2 hk
        by_cases hz : S.size = 0
        · obtain rfl := sEmpty hz
          by_cases h4 : k = 4
          · subst h4
            cases hn : ((n / 2) == 0)
            · have hn1 : ¬ n / 2 = 0 := fun h => by rw [h] at hn; cases hn
              have g0 : ¬ n = 0 := by omega
              have g1 : ¬ n = 1 := by omega
              obtain rfl : b = false := by rw [← HB.out]; simp [fitsB, ht, g0, g1] <;> rfl
              clear hn1 g0 g1
              clear ht
              go_enter Tryz.func21, Tryz.ntmps21
              go_wp2_with fail
              refine (ty_any _ _ _ _ HT.out).mono ?_
              rintro e w1 ⟨rfl, c1⟩
              have C1 := Lib.hid c1
              have q0 : w1.cell? ⟨w.heap.size, 0, none⟩ = some (.int .i64 4) := cell_later c1 (by simp)
              have r0 : w1.cell? ⟨w.heap.size + 1, 0, none⟩ = some (.bool false) := cell_later c1 (by simp)
              have r1 : w1.cell? ⟨w.heap.size + 1, 1, none⟩ = some (.int .i64 n) := cell_later c1 (by simp)
              have r2 : w1.cell? ⟨w.heap.size + 1, 2, none⟩ = some (.string ⟨#[]⟩) := cell_later c1 (by simp)
              clear c1
              go_wp2_with fail
              go_ret
              exact ⟨rfl, (below2 _ _ _).trans (C1.out.mono (by simp; omega))⟩
            · have hn1 : n / 2 = 0 := by simpa using hn
              have g : n = 0 ∨ n = 1 := by omega
              clear hn1 hn
              rcases g with rfl | rfl
              · skip
                obtain rfl : b = true := by rw [← HB.out]; simp [fitsB, ht] <;> rfl
                clear ht
                go_enter Tryz.func21, Tryz.ntmps21
                go_wp2_with fail
                refine (ty_any _ _ _ _ HT.out).mono ?_
                rintro e w1 ⟨rfl, c1⟩
                have C1 := Lib.hid c1
                have q0 : w1.cell? ⟨w.heap.size, 0, none⟩ = some (.int .i64 4) := cell_later c1 (by simp)
                have r0 : w1.cell? ⟨w.heap.size + 1, 0, none⟩ = some (.bool false) := cell_later c1 (by simp)
                have r1 : w1.cell? ⟨w.heap.size + 1, 1, none⟩ = some (.int .i64 0) := cell_later c1 (by simp)
                have r2 : w1.cell? ⟨w.heap.size + 1, 2, none⟩ = some (.string ⟨#[]⟩) := cell_later c1 (by simp)
                clear c1
                go_wp2_with fail
                go_ret
                exact ⟨rfl, (below2 _ _ _).trans (C1.out.mono (by simp; omega))⟩
              · skip
                obtain rfl : b = true := by rw [← HB.out]; simp [fitsB, ht] <;> rfl
                clear ht
                go_enter Tryz.func21, Tryz.ntmps21
                go_wp2_with fail
                refine (ty_any _ _ _ _ HT.out).mono ?_
                rintro e w1 ⟨rfl, c1⟩
                have C1 := Lib.hid c1
                have q0 : w1.cell? ⟨w.heap.size, 0, none⟩ = some (.int .i64 4) := cell_later c1 (by simp)
                have r0 : w1.cell? ⟨w.heap.size + 1, 0, none⟩ = some (.bool false) := cell_later c1 (by simp)
                have r1 : w1.cell? ⟨w.heap.size + 1, 1, none⟩ = some (.int .i64 1) := cell_later c1 (by simp)
                have r2 : w1.cell? ⟨w.heap.size + 1, 2, none⟩ = some (.string ⟨#[]⟩) := cell_later c1 (by simp)
                clear c1
                go_wp2_with fail
                go_ret
                exact ⟨rfl, (below2 _ _ _).trans (C1.out.mono (by simp; omega))⟩
          · have e4 : (k == 4) = false := beq_eq_false_iff_ne.2 h4
            have e5 : (k != 4) = true := bne_iff_ne.2 h4
            obtain rfl : b = true := by rw [← HB.out]; simp [fitsB, ht, hk, h4] <;> rfl
            clear hk h4
            clear ht
            go_enter Tryz.func21, Tryz.ntmps21
            go_wp2_with fail
            refine (ty_any _ _ _ _ HT.out).mono ?_
            rintro e w1 ⟨rfl, c1⟩
            have C1 := Lib.hid c1
            have q0 : w1.cell? ⟨w.heap.size, 0, none⟩ = some (.int .i64 k) := cell_later c1 (by simp)
            have r0 : w1.cell? ⟨w.heap.size + 1, 0, none⟩ = some (.bool false) := cell_later c1 (by simp)
            have r1 : w1.cell? ⟨w.heap.size + 1, 1, none⟩ = some (.int .i64 n) := cell_later c1 (by simp)
            have r2 : w1.cell? ⟨w.heap.size + 1, 2, none⟩ = some (.string ⟨#[]⟩) := cell_later c1 (by simp)
            clear c1
            go_wp2_with fail
            go_ret
            exact ⟨rfl, (below2 _ _ _).trans (C1.out.mono (by simp; omega))⟩
        · have e6 := sFull hz
          have e7 : S.toList.isEmpty = false := by rw [ByteArray.toList_eq]; simpa [Array.isEmpty, List.isEmpty_iff, ← List.length_eq_zero_iff] using hz
          by_cases h4 : k = 4
          · subst h4
            obtain rfl : b = false := by rw [← HB.out]; simp [fitsB, ht, hz]
            clear hz
            clear ht
            go_enter Tryz.func21, Tryz.ntmps21
            go_wp2_with fail
            refine (ty_any _ _ _ _ HT.out).mono ?_
            rintro e w1 ⟨rfl, c1⟩
            have C1 := Lib.hid c1
            have q0 : w1.cell? ⟨w.heap.size, 0, none⟩ = some (.int .i64 4) := cell_later c1 (by simp)
            have r0 : w1.cell? ⟨w.heap.size + 1, 0, none⟩ = some (.bool false) := cell_later c1 (by simp)
            have r1 : w1.cell? ⟨w.heap.size + 1, 1, none⟩ = some (.int .i64 n) := cell_later c1 (by simp)
            have r2 : w1.cell? ⟨w.heap.size + 1, 2, none⟩ = some (.string S) := cell_later c1 (by simp)
            clear c1
            go_wp2_with fail
            go_ret
            exact ⟨rfl, (below2 _ _ _).trans (C1.out.mono (by simp; omega))⟩
          · have e4 : (k == 4) = false := beq_eq_false_iff_ne.2 h4
            obtain rfl : b = false := by rw [← HB.out]; simp [fitsB, ht, hk, hz]
            clear hk h4 hz
            clear ht
            go_enter Tryz.func21, Tryz.ntmps21
            go_wp2_with fail
            refine (ty_any _ _ _ _ HT.out).mono ?_
            rintro e w1 ⟨rfl, c1⟩
            have C1 := Lib.hid c1
            have q0 : w1.cell? ⟨w.heap.size, 0, none⟩ = some (.int .i64 k) := cell_later c1 (by simp)
            have r0 : w1.cell? ⟨w.heap.size + 1, 0, none⟩ = some (.bool false) := cell_later c1 (by simp)
            have r1 : w1.cell? ⟨w.heap.size + 1, 1, none⟩ = some (.int .i64 n) := cell_later c1 (by simp)
            have r2 : w1.cell? ⟨w.heap.size + 1, 2, none⟩ = some (.string S) := cell_later c1 (by simp)
            clear c1
            go_wp2_with fail
            go_ret
            exact ⟨rfl, (below2 _ _ _).trans (C1.out.mono (by simp; omega))⟩
    · cases nu
      · skip
        obtain rfl : b = false := by rw [← HB.out]; simp [fitsB, ht]
        clear ht
        go_enter Tryz.func21, Tryz.ntmps21
        go_wp2_with fail
        refine (ty_any _ _ _ _ HT.out).mono ?_
        rintro e w1 ⟨rfl, c1⟩
        have C1 := Lib.hid c1
        have q0 : w1.cell? ⟨w.heap.size, 0, none⟩ = some (.int .i64 k) := cell_later c1 (by simp)
        have r0 : w1.cell? ⟨w.heap.size + 1, 0, none⟩ = some (.bool true) := cell_later c1 (by simp)
        have r1 : w1.cell? ⟨w.heap.size + 1, 1, none⟩ = some (.int .i64 n) := cell_later c1 (by simp)
        have r2 : w1.cell? ⟨w.heap.size + 1, 2, none⟩ = some (.string S) := cell_later c1 (by simp)
        clear c1
        go_wp2_with fail
        go_ret
        exact ⟨rfl, (below2 _ _ _).trans (C1.out.mono (by simp; omega))⟩
      · cases hn : (n == 0)
        · have hn0 : ¬ n = 0 := fun h => by rw [h] at hn; cases hn
          obtain rfl : b = false := by rw [← HB.out]; simp [fitsB, ht, hn0]
          clear hn0
          clear ht
          go_enter Tryz.func21, Tryz.ntmps21
          go_wp2_with fail
          refine (ty_any _ _ _ _ HT.out).mono ?_
          rintro e w1 ⟨rfl, c1⟩
          have C1 := Lib.hid c1
          have q0 : w1.cell? ⟨w.heap.size, 0, none⟩ = some (.int .i64 k) := cell_later c1 (by simp)
          have r0 : w1.cell? ⟨w.heap.size + 1, 0, none⟩ = some (.bool true) := cell_later c1 (by simp)
          have r1 : w1.cell? ⟨w.heap.size + 1, 1, none⟩ = some (.int .i64 n) := cell_later c1 (by simp)
          have r2 : w1.cell? ⟨w.heap.size + 1, 2, none⟩ = some (.string S) := cell_later c1 (by simp)
          clear c1
          go_wp2_with fail
          go_ret
          exact ⟨by simp [hn], (below2 _ _ _).trans (C1.out.mono (by simp; omega))⟩
        · have hn0 : n = 0 := by simpa using hn
          subst hn0
          by_cases hz : S.size = 0
          · obtain rfl := sEmpty hz
            obtain rfl : b = true := by rw [← HB.out]; simp [fitsB, ht] <;> rfl
            clear ht
            go_enter Tryz.func21, Tryz.ntmps21
            go_wp2_with fail
            refine (ty_any _ _ _ _ HT.out).mono ?_
            rintro e w1 ⟨rfl, c1⟩
            have C1 := Lib.hid c1
            have q0 : w1.cell? ⟨w.heap.size, 0, none⟩ = some (.int .i64 k) := cell_later c1 (by simp)
            have r0 : w1.cell? ⟨w.heap.size + 1, 0, none⟩ = some (.bool true) := cell_later c1 (by simp)
            have r1 : w1.cell? ⟨w.heap.size + 1, 1, none⟩ = some (.int .i64 0) := cell_later c1 (by simp)
            have r2 : w1.cell? ⟨w.heap.size + 1, 2, none⟩ = some (.string ⟨#[]⟩) := cell_later c1 (by simp)
            clear c1
            go_wp2_with fail
            go_ret
            exact ⟨rfl, (below2 _ _ _).trans (C1.out.mono (by simp; omega))⟩
          · have e6 := sFull hz
            have e7 : S.toList.isEmpty = false := by rw [ByteArray.toList_eq]; simpa [Array.isEmpty, List.isEmpty_iff, ← List.length_eq_zero_iff] using hz
            obtain rfl : b = false := by rw [← HB.out]; simp [fitsB, ht, hz]
            clear hz
            clear ht
            go_enter Tryz.func21, Tryz.ntmps21
            go_wp2_with fail
            refine (ty_any _ _ _ _ HT.out).mono ?_
            rintro e w1 ⟨rfl, c1⟩
            have C1 := Lib.hid c1
            have q0 : w1.cell? ⟨w.heap.size, 0, none⟩ = some (.int .i64 k) := cell_later c1 (by simp)
            have r0 : w1.cell? ⟨w.heap.size + 1, 0, none⟩ = some (.bool true) := cell_later c1 (by simp)
            have r1 : w1.cell? ⟨w.heap.size + 1, 1, none⟩ = some (.int .i64 0) := cell_later c1 (by simp)
            have r2 : w1.cell? ⟨w.heap.size + 1, 2, none⟩ = some (.string S) := cell_later c1 (by simp)
            clear c1
            go_wp2_with fail
            go_ret
            exact ⟨by simp [e6], (below2 _ _ _).trans (C1.out.mono (by simp; omega))⟩
set_option maxRecDepth 100000 in
set_option maxHeartbeats 4000000 in
theorem rfits_any (k s : Int) (nu vn : Bool) (n : Int) (S : ByteArray) (w : World) (b : Bool) (hb : fitsB ⟨k, s⟩ nu ⟨vn, n, S⟩ = b) : Calls Tryz.prog 24 #[.agg #[.int .i64 k, .int .i64 s], .bool nu, .agg #[.bool vn, .int .i64 n, .string S]] w (BoolS w b) := by
  have HB := Lib.hid hb
  clear hb
  cases ht : tyB ⟨k, s⟩
  · have HT := Lib.hid ht
    obtain rfl : b = false := by rw [← HB.out]; simp [fitsB, ht]
    clear ht
    go_enter Tryz.func24, Tryz.ntmps24
    go_wp2_with fail
    refine (rty_any _ _ _ _ HT.out).mono ?_
    rintro e w1 ⟨rfl, c1⟩
    have C1 := Lib.hid c1
    have q0 : w1.cell? ⟨w.heap.size, 0, none⟩ = some (.int .i64 k) := cell_later c1 (by simp)
    have r0 : w1.cell? ⟨w.heap.size + 1, 0, none⟩ = some (.bool vn) := cell_later c1 (by simp)
    have r1 : w1.cell? ⟨w.heap.size + 1, 1, none⟩ = some (.int .i64 n) := cell_later c1 (by simp)
    have r2 : w1.cell? ⟨w.heap.size + 1, 2, none⟩ = some (.string S) := cell_later c1 (by simp)
    clear c1
    go_wp2_with fail
    go_ret
    exact ⟨rfl, (below2 _ _ _).trans (C1.out.mono (by simp; omega))⟩
  · have HT := Lib.hid ht
    cases vn
    · by_cases hk : k = 3
      · subst hk
        cases hn : (n == 0)
        · have hn0 : ¬ n = 0 := fun h => by rw [h] at hn; cases hn
          obtain rfl : b = false := by rw [← HB.out]; simp [fitsB, ht, hn0]
          clear hn0
          clear ht
          go_enter Tryz.func24, Tryz.ntmps24
          go_wp2_with fail
          refine (rty_any _ _ _ _ HT.out).mono ?_
          rintro e w1 ⟨rfl, c1⟩
          have C1 := Lib.hid c1
          have q0 : w1.cell? ⟨w.heap.size, 0, none⟩ = some (.int .i64 3) := cell_later c1 (by simp)
          have r0 : w1.cell? ⟨w.heap.size + 1, 0, none⟩ = some (.bool false) := cell_later c1 (by simp)
          have r1 : w1.cell? ⟨w.heap.size + 1, 1, none⟩ = some (.int .i64 n) := cell_later c1 (by simp)
          have r2 : w1.cell? ⟨w.heap.size + 1, 2, none⟩ = some (.string S) := cell_later c1 (by simp)
          clear c1
          go_wp2_with fail
          go_ret
          exact ⟨rfl, (below2 _ _ _).trans (C1.out.mono (by simp; omega))⟩
        · have hn0 : n = 0 := by simpa using hn
          subst hn0
          by_cases hz : S.size ≤ 200
          · have d : decide ((S.size : Int) ≤ 200) = true := decide_eq_true (by omega)
            obtain rfl : b = true := by rw [← HB.out]; simp [fitsB, ht, hz]
            clear ht
            go_enter Tryz.func24, Tryz.ntmps24
            go_wp2_with fail
            refine (rty_any _ _ _ _ HT.out).mono ?_
            rintro e w1 ⟨rfl, c1⟩
            have C1 := Lib.hid c1
            have q0 : w1.cell? ⟨w.heap.size, 0, none⟩ = some (.int .i64 3) := cell_later c1 (by simp)
            have r0 : w1.cell? ⟨w.heap.size + 1, 0, none⟩ = some (.bool false) := cell_later c1 (by simp)
            have r1 : w1.cell? ⟨w.heap.size + 1, 1, none⟩ = some (.int .i64 0) := cell_later c1 (by simp)
            have r2 : w1.cell? ⟨w.heap.size + 1, 2, none⟩ = some (.string S) := cell_later c1 (by simp)
            clear c1
            go_wp2_with fail
            go_ret
            exact ⟨rfl, (below2 _ _ _).trans (C1.out.mono (by simp; omega))⟩
          · have d : decide ((S.size : Int) ≤ 200) = false := decide_eq_false (by omega)
            obtain rfl : b = false := by rw [← HB.out]; simp [fitsB, ht, hz]
            clear ht
            go_enter Tryz.func24, Tryz.ntmps24
            go_wp2_with fail
            refine (rty_any _ _ _ _ HT.out).mono ?_
            rintro e w1 ⟨rfl, c1⟩
            have C1 := Lib.hid c1
            have q0 : w1.cell? ⟨w.heap.size, 0, none⟩ = some (.int .i64 3) := cell_later c1 (by simp)
            have r0 : w1.cell? ⟨w.heap.size + 1, 0, none⟩ = some (.bool false) := cell_later c1 (by simp)
            have r1 : w1.cell? ⟨w.heap.size + 1, 1, none⟩ = some (.int .i64 0) := cell_later c1 (by simp)
            have r2 : w1.cell? ⟨w.heap.size + 1, 2, none⟩ = some (.string S) := cell_later c1 (by simp)
            clear c1
            go_wp2_with fail
            go_ret
            exact ⟨rfl, (below2 _ _ _).trans (C1.out.mono (by simp; omega))⟩
      · have e3 : (k == 3) = false := beq_eq_false_iff_ne.2 hk
        by_cases hz : S.size = 0
        · obtain rfl := sEmpty hz
          by_cases h4 : k = 4
          · subst h4
            cases hn : (n == 0)
            · cases hn1 : (n == 1)
              · have g0 : ¬ n = 0 := fun h => by rw [h] at hn; cases hn
                have g1 : ¬ n = 1 := fun h => by rw [h] at hn1; cases hn1
                obtain rfl : b = false := by rw [← HB.out]; simp [fitsB, ht, g0, g1] <;> rfl
                clear g0 g1
                clear ht
                go_enter Tryz.func24, Tryz.ntmps24
                go_wp2_with fail
                refine (rty_any _ _ _ _ HT.out).mono ?_
                rintro e w1 ⟨rfl, c1⟩
                have C1 := Lib.hid c1
                have q0 : w1.cell? ⟨w.heap.size, 0, none⟩ = some (.int .i64 4) := cell_later c1 (by simp)
                have r0 : w1.cell? ⟨w.heap.size + 1, 0, none⟩ = some (.bool false) := cell_later c1 (by simp)
                have r1 : w1.cell? ⟨w.heap.size + 1, 1, none⟩ = some (.int .i64 n) := cell_later c1 (by simp)
                have r2 : w1.cell? ⟨w.heap.size + 1, 2, none⟩ = some (.string ⟨#[]⟩) := cell_later c1 (by simp)
                clear c1
                go_wp2_with fail
                go_ret
                exact ⟨rfl, (below2 _ _ _).trans (C1.out.mono (by simp; omega))⟩
              · have g1 : n = 1 := by simpa using hn1
                subst g1
                obtain rfl : b = true := by rw [← HB.out]; simp [fitsB, ht] <;> rfl
                clear ht
                go_enter Tryz.func24, Tryz.ntmps24
                go_wp2_with fail
                refine (rty_any _ _ _ _ HT.out).mono ?_
                rintro e w1 ⟨rfl, c1⟩
                have C1 := Lib.hid c1
                have q0 : w1.cell? ⟨w.heap.size, 0, none⟩ = some (.int .i64 4) := cell_later c1 (by simp)
                have r0 : w1.cell? ⟨w.heap.size + 1, 0, none⟩ = some (.bool false) := cell_later c1 (by simp)
                have r1 : w1.cell? ⟨w.heap.size + 1, 1, none⟩ = some (.int .i64 1) := cell_later c1 (by simp)
                have r2 : w1.cell? ⟨w.heap.size + 1, 2, none⟩ = some (.string ⟨#[]⟩) := cell_later c1 (by simp)
                clear c1
                go_wp2_with fail
                go_ret
                exact ⟨rfl, (below2 _ _ _).trans (C1.out.mono (by simp; omega))⟩
            · have g0 : n = 0 := by simpa using hn
              subst g0
              obtain rfl : b = true := by rw [← HB.out]; simp [fitsB, ht] <;> rfl
              clear ht
              go_enter Tryz.func24, Tryz.ntmps24
              go_wp2_with fail
              refine (rty_any _ _ _ _ HT.out).mono ?_
              rintro e w1 ⟨rfl, c1⟩
              have C1 := Lib.hid c1
              have q0 : w1.cell? ⟨w.heap.size, 0, none⟩ = some (.int .i64 4) := cell_later c1 (by simp)
              have r0 : w1.cell? ⟨w.heap.size + 1, 0, none⟩ = some (.bool false) := cell_later c1 (by simp)
              have r1 : w1.cell? ⟨w.heap.size + 1, 1, none⟩ = some (.int .i64 0) := cell_later c1 (by simp)
              have r2 : w1.cell? ⟨w.heap.size + 1, 2, none⟩ = some (.string ⟨#[]⟩) := cell_later c1 (by simp)
              clear c1
              go_wp2_with fail
              go_ret
              exact ⟨rfl, (below2 _ _ _).trans (C1.out.mono (by simp; omega))⟩
          · have e4 : (k == 4) = false := beq_eq_false_iff_ne.2 h4
            have e5 : (k != 4) = true := bne_iff_ne.2 h4
            obtain rfl : b = true := by rw [← HB.out]; simp [fitsB, ht, hk, h4] <;> rfl
            clear hk h4
            clear ht
            go_enter Tryz.func24, Tryz.ntmps24
            go_wp2_with fail
            refine (rty_any _ _ _ _ HT.out).mono ?_
            rintro e w1 ⟨rfl, c1⟩
            have C1 := Lib.hid c1
            have q0 : w1.cell? ⟨w.heap.size, 0, none⟩ = some (.int .i64 k) := cell_later c1 (by simp)
            have r0 : w1.cell? ⟨w.heap.size + 1, 0, none⟩ = some (.bool false) := cell_later c1 (by simp)
            have r1 : w1.cell? ⟨w.heap.size + 1, 1, none⟩ = some (.int .i64 n) := cell_later c1 (by simp)
            have r2 : w1.cell? ⟨w.heap.size + 1, 2, none⟩ = some (.string ⟨#[]⟩) := cell_later c1 (by simp)
            clear c1
            go_wp2_with fail
            go_ret
            exact ⟨rfl, (below2 _ _ _).trans (C1.out.mono (by simp; omega))⟩
        · have e6 := sFull hz
          have e7 : S.toList.isEmpty = false := by rw [ByteArray.toList_eq]; simpa [Array.isEmpty, List.isEmpty_iff, ← List.length_eq_zero_iff] using hz
          by_cases h4 : k = 4
          · subst h4
            cases hn : (n == 0)
            · cases hn1 : (n == 1)
              · skip
                obtain rfl : b = false := by rw [← HB.out]; simp [fitsB, ht, hz]
                clear hz
                clear ht
                go_enter Tryz.func24, Tryz.ntmps24
                go_wp2_with fail
                refine (rty_any _ _ _ _ HT.out).mono ?_
                rintro e w1 ⟨rfl, c1⟩
                have C1 := Lib.hid c1
                have q0 : w1.cell? ⟨w.heap.size, 0, none⟩ = some (.int .i64 4) := cell_later c1 (by simp)
                have r0 : w1.cell? ⟨w.heap.size + 1, 0, none⟩ = some (.bool false) := cell_later c1 (by simp)
                have r1 : w1.cell? ⟨w.heap.size + 1, 1, none⟩ = some (.int .i64 n) := cell_later c1 (by simp)
                have r2 : w1.cell? ⟨w.heap.size + 1, 2, none⟩ = some (.string S) := cell_later c1 (by simp)
                clear c1
                go_wp2_with fail
                go_ret
                exact ⟨rfl, (below2 _ _ _).trans (C1.out.mono (by simp; omega))⟩
              · skip
                obtain rfl : b = false := by rw [← HB.out]; simp [fitsB, ht, hz]
                clear hz
                clear ht
                go_enter Tryz.func24, Tryz.ntmps24
                go_wp2_with fail
                refine (rty_any _ _ _ _ HT.out).mono ?_
                rintro e w1 ⟨rfl, c1⟩
                have C1 := Lib.hid c1
                have q0 : w1.cell? ⟨w.heap.size, 0, none⟩ = some (.int .i64 4) := cell_later c1 (by simp)
                have r0 : w1.cell? ⟨w.heap.size + 1, 0, none⟩ = some (.bool false) := cell_later c1 (by simp)
                have r1 : w1.cell? ⟨w.heap.size + 1, 1, none⟩ = some (.int .i64 n) := cell_later c1 (by simp)
                have r2 : w1.cell? ⟨w.heap.size + 1, 2, none⟩ = some (.string S) := cell_later c1 (by simp)
                clear c1
                go_wp2_with fail
                go_ret
                exact ⟨rfl, (below2 _ _ _).trans (C1.out.mono (by simp; omega))⟩
            · skip
              obtain rfl : b = false := by rw [← HB.out]; simp [fitsB, ht, hz]
              clear hz
              clear ht
              go_enter Tryz.func24, Tryz.ntmps24
              go_wp2_with fail
              refine (rty_any _ _ _ _ HT.out).mono ?_
              rintro e w1 ⟨rfl, c1⟩
              have C1 := Lib.hid c1
              have q0 : w1.cell? ⟨w.heap.size, 0, none⟩ = some (.int .i64 4) := cell_later c1 (by simp)
              have r0 : w1.cell? ⟨w.heap.size + 1, 0, none⟩ = some (.bool false) := cell_later c1 (by simp)
              have r1 : w1.cell? ⟨w.heap.size + 1, 1, none⟩ = some (.int .i64 n) := cell_later c1 (by simp)
              have r2 : w1.cell? ⟨w.heap.size + 1, 2, none⟩ = some (.string S) := cell_later c1 (by simp)
              clear c1
              go_wp2_with fail
              go_ret
              exact ⟨rfl, (below2 _ _ _).trans (C1.out.mono (by simp; omega))⟩
          · have e4 : (k == 4) = false := beq_eq_false_iff_ne.2 h4
            obtain rfl : b = false := by rw [← HB.out]; simp [fitsB, ht, hk, hz]
            clear hk h4 hz
            clear ht
            go_enter Tryz.func24, Tryz.ntmps24
            go_wp2_with fail
            refine (rty_any _ _ _ _ HT.out).mono ?_
            rintro e w1 ⟨rfl, c1⟩
            have C1 := Lib.hid c1
            have q0 : w1.cell? ⟨w.heap.size, 0, none⟩ = some (.int .i64 k) := cell_later c1 (by simp)
            have r0 : w1.cell? ⟨w.heap.size + 1, 0, none⟩ = some (.bool false) := cell_later c1 (by simp)
            have r1 : w1.cell? ⟨w.heap.size + 1, 1, none⟩ = some (.int .i64 n) := cell_later c1 (by simp)
            have r2 : w1.cell? ⟨w.heap.size + 1, 2, none⟩ = some (.string S) := cell_later c1 (by simp)
            clear c1
            go_wp2_with fail
            go_ret
            exact ⟨rfl, (below2 _ _ _).trans (C1.out.mono (by simp; omega))⟩
    · cases nu
      · skip
        obtain rfl : b = false := by rw [← HB.out]; simp [fitsB, ht]
        clear ht
        go_enter Tryz.func24, Tryz.ntmps24
        go_wp2_with fail
        refine (rty_any _ _ _ _ HT.out).mono ?_
        rintro e w1 ⟨rfl, c1⟩
        have C1 := Lib.hid c1
        have q0 : w1.cell? ⟨w.heap.size, 0, none⟩ = some (.int .i64 k) := cell_later c1 (by simp)
        have r0 : w1.cell? ⟨w.heap.size + 1, 0, none⟩ = some (.bool true) := cell_later c1 (by simp)
        have r1 : w1.cell? ⟨w.heap.size + 1, 1, none⟩ = some (.int .i64 n) := cell_later c1 (by simp)
        have r2 : w1.cell? ⟨w.heap.size + 1, 2, none⟩ = some (.string S) := cell_later c1 (by simp)
        clear c1
        go_wp2_with fail
        go_ret
        exact ⟨rfl, (below2 _ _ _).trans (C1.out.mono (by simp; omega))⟩
      · cases hn : (n == 0)
        · have hn0 : ¬ n = 0 := fun h => by rw [h] at hn; cases hn
          obtain rfl : b = false := by rw [← HB.out]; simp [fitsB, ht, hn0]
          clear hn0
          clear ht
          go_enter Tryz.func24, Tryz.ntmps24
          go_wp2_with fail
          refine (rty_any _ _ _ _ HT.out).mono ?_
          rintro e w1 ⟨rfl, c1⟩
          have C1 := Lib.hid c1
          have q0 : w1.cell? ⟨w.heap.size, 0, none⟩ = some (.int .i64 k) := cell_later c1 (by simp)
          have r0 : w1.cell? ⟨w.heap.size + 1, 0, none⟩ = some (.bool true) := cell_later c1 (by simp)
          have r1 : w1.cell? ⟨w.heap.size + 1, 1, none⟩ = some (.int .i64 n) := cell_later c1 (by simp)
          have r2 : w1.cell? ⟨w.heap.size + 1, 2, none⟩ = some (.string S) := cell_later c1 (by simp)
          clear c1
          go_wp2_with fail
          go_ret
          exact ⟨rfl, (below2 _ _ _).trans (C1.out.mono (by simp; omega))⟩
        · have hn0 : n = 0 := by simpa using hn
          subst hn0
          by_cases hz : S.size = 0
          · obtain rfl := sEmpty hz
            obtain rfl : b = true := by rw [← HB.out]; simp [fitsB, ht] <;> rfl
            clear ht
            go_enter Tryz.func24, Tryz.ntmps24
            go_wp2_with fail
            refine (rty_any _ _ _ _ HT.out).mono ?_
            rintro e w1 ⟨rfl, c1⟩
            have C1 := Lib.hid c1
            have q0 : w1.cell? ⟨w.heap.size, 0, none⟩ = some (.int .i64 k) := cell_later c1 (by simp)
            have r0 : w1.cell? ⟨w.heap.size + 1, 0, none⟩ = some (.bool true) := cell_later c1 (by simp)
            have r1 : w1.cell? ⟨w.heap.size + 1, 1, none⟩ = some (.int .i64 0) := cell_later c1 (by simp)
            have r2 : w1.cell? ⟨w.heap.size + 1, 2, none⟩ = some (.string ⟨#[]⟩) := cell_later c1 (by simp)
            clear c1
            go_wp2_with fail
            go_ret
            exact ⟨rfl, (below2 _ _ _).trans (C1.out.mono (by simp; omega))⟩
          · have e6 := sFull hz
            have e7 : S.toList.isEmpty = false := by rw [ByteArray.toList_eq]; simpa [Array.isEmpty, List.isEmpty_iff, ← List.length_eq_zero_iff] using hz
            obtain rfl : b = false := by rw [← HB.out]; simp [fitsB, ht, hz]
            clear hz
            clear ht
            go_enter Tryz.func24, Tryz.ntmps24
            go_wp2_with fail
            refine (rty_any _ _ _ _ HT.out).mono ?_
            rintro e w1 ⟨rfl, c1⟩
            have C1 := Lib.hid c1
            have q0 : w1.cell? ⟨w.heap.size, 0, none⟩ = some (.int .i64 k) := cell_later c1 (by simp)
            have r0 : w1.cell? ⟨w.heap.size + 1, 0, none⟩ = some (.bool true) := cell_later c1 (by simp)
            have r1 : w1.cell? ⟨w.heap.size + 1, 1, none⟩ = some (.int .i64 0) := cell_later c1 (by simp)
            have r2 : w1.cell? ⟨w.heap.size + 1, 2, none⟩ = some (.string S) := cell_later c1 (by simp)
            clear c1
            go_wp2_with fail
            go_ret
            exact ⟨rfl, (below2 _ _ _).trans (C1.out.mono (by simp; omega))⟩
end Go.Proofs.YtekpdcofjhdiiaaGreatDoor.Val
