/-
  OpOf, OpWord in one.
-/
import Derived.Test.YtmbgemcddjailaaGreatDoorOpAll
import Derived.Test.YtmbgemcddjailaaGreatDoorOpTable
import Derived.Deep.QuietTactic
import Derived.BigQuiet
/- OpOf: What package op's Of, word, Float answer. No condition beyond what each theorem names. -/
namespace Go.Proofs.YtmbgemcddjailaaGreatDoor.Op
open Go.RowKit Go.Maps
set_option linter.unusedVariables false
theorem zero_info (w : World) : (zeroValue 177).run Tryz.prog w = .ok zeroI.toV w := by kernel_rfl
theorem held_inj {a b : Value} (h : (DataW.held a : DataW Value) = .held b) : a = b := by injection h
set_option maxRecDepth 100000 in
set_option maxHeartbeats 1000000 in
theorem of_any (code : Int) (w : World) (hE : OpEnv w) (hc : (Lit.int .i64 code).wf = true) (i : Info) (b : Bool) (hi : (opInfo code).getD zeroI = i) (hb : (opInfo code).isSome = b) :
    Calls Tryz.prog 93 #[.int .i64 code] w fun e w' => e = .returned (.tuple #[i.toV, .bool b]) ∧ Below w.heap.size w w' := by
  have HE := Lib.hid hE
  have HC := Lib.hid hc
  have HI := Lib.hid hi
  have HB := Lib.hid hb
  clear hE hc hi hb
  have B0 : Below w.heap.size w (w.alloc (.cells #[.string ⟨#[]⟩, .int .i64 0, .string ⟨#[]⟩, .string ⟨#[]⟩] 177)) := (Below.refl _ _).alloc (Nat.le_refl _) _
  go_enter Tryz.func93, Tryz.ntmps93
  go_wp2_with fail
  refine (all_any _ (opEnv_later HE.out B0)).mono ?_
  rintro e w1 ⟨mb, n, rfl, hown, c1, hle⟩
  have B1 := B0.trans (c1.mono B0.size)
  have s0 : w.heap.size < w1.heap.size := by have := c1.size; simp at this; omega
  have r0 : w1.cell? ⟨w.heap.size, 0, none⟩ = some (.string ⟨#[]⟩) := cell_later c1 (by simp)
  have r1 : w1.cell? ⟨w.heap.size, 1, none⟩ = some (.int .i64 0) := cell_later c1 (by simp)
  have r2 : w1.cell? ⟨w.heap.size, 2, none⟩ = some (.string ⟨#[]⟩) := cell_later c1 (by simp)
  have r3 : w1.cell? ⟨w.heap.size, 3, none⟩ = some (.string ⟨#[]⟩) := cell_later c1 (by simp)
  have f0 : ∀ j, w1.frozen? ⟨w.heap.size, j, none⟩ = false := fun j => by rw [c1.frozen (p := ⟨w.heap.size, j, none⟩) (by simp)]; simp
  obtain ⟨v, ps, hrun, hv⟩ := hown.look_ok keyed_int Tryz.underlying154 (zero_info w1) (show asIs zeroI.toV = some (.held zeroI.toV, []) from rfl) (key_int code HC.out)
  have hv2 := held_inj ((congrArg Prod.fst (Option.some.inj hv)).trans (atKey_eq code))
  rw [HI.out] at hv2
  subst hv2
  rw [has_eq, HB.out] at hrun
  clear hown hv B0
  obtain ⟨nm, sh, p, r⟩ := i
  change (Instr.lookup _ _ _ _).run _ _ = .ok (.tuple #[.agg #[.string nm, .int .i64 sh, .string p, .string r], .bool b]) w1 at hrun
  go_wp2_with fail
  refine bodyPost_ret (v := .tuple #[.agg #[.string nm, .int .i64 sh, .string p, .string r], .bool b]) (by simp [results, Tryz.results93, go_sem, s0, r0, r1, r2, r3]) rfl ⟨rfl, ?_⟩
  exact ((((B1.setCell (Nat.le_refl _) _).setCell (Nat.le_refl _) _).setCell (Nat.le_refl _) _).setCell (Nat.le_refl _) _).alloc (by simp; omega) _
end Go.Proofs.YtmbgemcddjailaaGreatDoor.Op

/- OpWord: What package op's word answers, of one number and of two. No condition beyond what each theorem names. -/
namespace Go.Proofs.YtmbgemcddjailaaGreatDoor.Op
open Go.RowKit Go.Maps
set_option linter.unusedVariables false
/-- 32 bits, without a sign -/
def wordB (n : Int) : Bool := decide (0 ≤ n) && decide (n < 4294967296)
theorem word_neg {n : Int} (h : n < 0) : wordB n = false := by unfold wordB; simp; omega
theorem word_big {n : Int} (h : 4294967296 ≤ n) : wordB n = false := by unfold wordB; simp; omega
theorem word_yes {n : Int} (h : 0 ≤ n) (h2 : n < 4294967296) : wordB n = true := by unfold wordB; simp; omega
def allWords (l : List Int) : Bool := l.all wordB
def RelW (l : List Int) (i : Value) : Prop := ∃ k : Nat, k ≤ l.length ∧ i = .int .i64 k ∧ ∀ j, j < k → wordB (l.getD j 0) = true
set_option maxRecDepth 100000 in
set_option maxHeartbeats 1000000 in
theorem word_any (l : List Int) (b c : Nat) (w : World) (hl : l.length < 1000) (hc : ∀ j, j < l.length → w.cell? ⟨b, j, none⟩ = some (.int .i64 (l.getD j 0))) :
    Calls Tryz.prog 94 #[.slice (some ⟨b, 0, none⟩) l.length c] w fun e w' => e = .returned (.bool (allWords l)) ∧ w = w' := by
  have HC := Lib.hid hc
  clear hc
  go_enter Tryz.func94, Tryz.ntmps94
  go_wp2_with fail
  go_loop [7] (fun i => RelW l i) (fun i => l.length - (intOf i).toNat)
  case atStart => exact ⟨0, Nat.zero_le _, rfl, fun j hj => by omega⟩
  case round =>
    obtain ⟨k, hk, rfl, hpre⟩ := hrel
    have HP := Lib.hid hpre
    clear hpre
    by_cases hlt : k < l.length
    · obtain ⟨n, hn⟩ : ∃ n, l.getD k 0 = n := ⟨_, rfl⟩
      have c0 : w.cell? ⟨b, k, none⟩ = some (.int .i64 n) := by rw [← hn]; exact HC.out k hlt
      have HN := Lib.hid hn
      clear hn
      have hd : decide (k < l.length) = true := decide_eq_true hlt
      have hne : wordB n = false → allWords l = false := fun h => by
        unfold allWords
        rw [List.all_eq_false]
        refine ⟨n, ?_, by simp [h]⟩
        rw [← HN.out, List.getD_eq_getElem?_getD, List.getElem?_eq_getElem hlt]
        exact List.getElem_mem hlt
      have HNE := Lib.hid hne
      clear hne
      rcases (show n < 0 ∨ (0 ≤ n ∧ n < 4294967296) ∨ 4294967296 ≤ n by omega) with h | ⟨h, h2⟩ | h
      · have d1 : decide (n < 0) = true := decide_eq_true h
        go_wp2_with fail
        go_ret
        rw [HNE.out (word_neg h)]
        exact ⟨rfl, rfl⟩
      · have d1 : decide (n < 0) = false := decide_eq_false (by omega)
        have d2 : n / 4294967296 = 0 := by omega
        go_wp2_with fail
        go_round
        case rel => exact ⟨k + 1, by omega, by go_num, fun j hj => by rcases (show j < k ∨ j = k by omega) with h9 | rfl; exact HP.out j h9; rw [HN.out]; exact word_yes h h2⟩
        case measure => simp [intOf]; omega
      · have d1 : decide (n < 0) = false := decide_eq_false (by omega)
        have d2 : ((n / 4294967296 : Int) != 0) = true := bne_iff_ne.2 (by omega)
        go_wp2_with fail
        go_ret
        rw [HNE.out (word_big h)]
        exact ⟨rfl, rfl⟩
    · obtain rfl : k = l.length := by omega
      have hd : decide (l.length < l.length) = false := by simp
      have hy : allWords l = true := by
        unfold allWords
        rw [List.all_eq_true]
        intro x hx
        obtain ⟨j, hj, rfl⟩ := List.getElem_of_mem hx
        have := HP.out j hj
        rw [List.getD_eq_getElem?_getD, List.getElem?_eq_getElem hj] at this
        exact this
      have HY := Lib.hid hy
      clear hy
      go_wp2_with fail
      go_ret
      rw [HY.out]
      exact ⟨rfl, rfl⟩
end Go.Proofs.YtmbgemcddjailaaGreatDoor.Op
