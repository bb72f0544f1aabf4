/-
  What package op's word answers, of one number and of two. No condition beyond what each theorem names.
-/
import Derived.Test.YtmfdabkmijbffaaGreatDoorOpOf
namespace Go.Proofs.YtmfdabkmijbffaaGreatDoor.Op
open Go.RowKit Go.Maps
set_option linter.unusedVariables false
/-- 32 bits, without a sign -/
def wordB (n : Int) : Bool := decide (0 ≤ n) && decide (n < 4294967296)
theorem word_neg {n : Int} (h : n < 0) : wordB n = false := by unfold wordB; simp; omega
theorem word_big {n : Int} (h : 4294967296 ≤ n) : wordB n = false := by unfold wordB; simp; omega
theorem word_yes {n : Int} (h : 0 ≤ n) (h2 : n < 4294967296) : wordB n = true := by unfold wordB; simp; omega
def allWords (l : List Int) : Bool := l.all wordB
def RelW (l : List Int) (i : Value) : Prop := ∃ k : Nat, k ≤ l.length ∧ i = .int .i64 k ∧ ∀ j, j < k → wordB (l.getD j 0) = true
set_option maxRecDepth 100000 in
set_option maxHeartbeats 1000000 in
theorem word_any (l : List Int) (b c : Nat) (w : World) (hl : l.length < 1000) (hc : ∀ j, j < l.length → w.cell? ⟨b, j, none⟩ = some (.int .i64 (l.getD j 0))) :
    Calls Tryz.prog 143 #[.slice (some ⟨b, 0, none⟩) l.length c] w fun e w' => e = .returned (.bool (allWords l)) ∧ w = w' := by
  have HC := Lib.hid hc
  clear hc
  go_enter Tryz.func143, Tryz.ntmps143
  go_wp2_with fail
  go_loop [7] (fun i => RelW l i) (fun i => l.length - (intOf i).toNat)
  case atStart => exact ⟨0, Nat.zero_le _, rfl, fun j hj => by omega⟩
  case round =>
    obtain ⟨k, hk, rfl, hpre⟩ := hrel
    have HP := Lib.hid hpre
    clear hpre
    by_cases hlt : k < l.length
    · obtain ⟨n, hn⟩ : ∃ n, l.getD k 0 = n := ⟨_, rfl⟩
      have c0 : w.cell? ⟨b, k, none⟩ = some (.int .i64 n) := by rw [← hn]; exact HC.out k hlt
      have HN := Lib.hid hn
      clear hn
      have hd : decide (k < l.length) = true := decide_eq_true hlt
      have hne : wordB n = false → allWords l = false := fun h => by
        unfold allWords
        rw [List.all_eq_false]
        refine ⟨n, ?_, by simp [h]⟩
        rw [← HN.out, List.getD_eq_getElem?_getD, List.getElem?_eq_getElem hlt]
        exact List.getElem_mem hlt
      have HNE := Lib.hid hne
      clear hne
      rcases (show n < 0 ∨ (0 ≤ n ∧ n < 4294967296) ∨ 4294967296 ≤ n by omega) with h | ⟨h, h2⟩ | h
      · have d1 : decide (n < 0) = true := decide_eq_true h
        go_wp2_with fail
        go_ret
        rw [HNE.out (word_neg h)]
        exact ⟨rfl, rfl⟩
      · have d1 : decide (n < 0) = false := decide_eq_false (by omega)
        have d2 : n / 4294967296 = 0 := by omega
        go_wp2_with fail
        go_round
        case rel => exact ⟨k + 1, by omega, by go_num, fun j hj => by rcases (show j < k ∨ j = k by omega) with h9 | rfl; exact HP.out j h9; rw [HN.out]; exact word_yes h h2⟩
        case measure => simp [intOf]; omega
      · have d1 : decide (n < 0) = false := decide_eq_false (by omega)
        have d2 : ((n / 4294967296 : Int) != 0) = true := bne_iff_ne.2 (by omega)
        go_wp2_with fail
        go_ret
        rw [HNE.out (word_big h)]
        exact ⟨rfl, rfl⟩
    · obtain rfl : k = l.length := by omega
      have hd : decide (l.length < l.length) = false := by simp
      have hy : allWords l = true := by
        unfold allWords
        rw [List.all_eq_true]
        intro x hx
        obtain ⟨j, hj, rfl⟩ := List.getElem_of_mem hx
        have := HP.out j hj
        rw [List.getD_eq_getElem?_getD, List.getElem?_eq_getElem hj] at this
        exact this
      have HY := Lib.hid hy
      clear hy
      go_wp2_with fail
      go_ret
      rw [HY.out]
      exact ⟨rfl, rfl⟩
end Go.Proofs.YtmfdabkmijbffaaGreatDoor.Op
