/-
  The law of blocks in one another: the walk. No condition beyond what each theorem names.
-/
import Derived.Test.YthcjgdmmpopplaaGreatDoorVldBlk
namespace Go.Proofs.YthcjgdmmpopplaaGreatDoor.Vld
open Go.RowKit Go.Maps Go.Lib Go.Proofs.YthcjgdmmpopplaaGreatDoor.Op Go.Proofs.YthcjgdmmpopplaaGreatDoor.Mod Go.Proofs.YthcjgdmmpopplaaGreatDoor.Pg
set_option linter.unusedVariables false
theorem one_row {α : Type} {x0 : α} {i : Nat} {x : α} (hi : [x0][i]? = some x) : i = 0 ∧ x = x0 := by
  match i, hi with
  | 0, hi => exact ⟨rfl, by simpa using hi.symm⟩
  | i + 1, hi => simp at hi
theorem mod1_at {W : World} {bt : Nat} {mv : Value} {mem : List MemP} (h : W.heap[bt]? = some (.cells #[.string ⟨#[]⟩, .string ⟨#[]⟩] 51 (0, 0))) (hm : MemsAt W mv mem) :
    ModAt W (.slice (some ⟨bt, 0, none⟩) 1 1) (.slice none 0 0) mv (.slice none 0 0) (.slice none 0 0) (-1) (.slice none 0 0) (mod1 mem) := by
  refine ⟨?_, list_nil W, hm, list_nil W, list_nil W, rfl, list_nil W⟩
  refine row_of_block h _ _ _ rfl (by simp [mod1]) (fun i x hi => ?_)
  obtain ⟨rfl, rfl⟩ := one_row hi
  exact ⟨⟨rfl, by decide, by decide⟩, rfl⟩
theorem opI_wf (i : Nat) : (Lit.int .i64 (opI i).op).wf = true := by
  rcases opI_two i with h | h <;> (rw [h]; decide)
theorem nestC_wf (k : Nat) (mid : List Ins) (hm : ∀ x ∈ mid, (Lit.int .i64 x.op).wf = true) : ∀ x ∈ nestC k mid, (Lit.int .i64 x.op).wf = true := by
  intro x hx
  rcases List.mem_append.1 hx with hx | hx
  · rcases List.mem_append.1 hx with hx | hx
    · obtain ⟨i, _, rfl⟩ := List.mem_map.1 hx
      exact opI_wf i
    · exact hm x hx
  · rw [List.eq_of_mem_replicate hx]
    decide
theorem nestC_len (k : Nat) (mid : List Ins) : (nestC k mid).length = k + mid.length + (k + 1) := by
  unfold nestC endsC
  rw [List.length_append, List.length_append, opensC_len, List.length_replicate]
theorem endsC_len (n : Nat) : (endsC n).length = n := by simp [endsC]
theorem below2 (w : World) (o1 o2 : Obj) : Below w.heap.size w ((w.alloc o1).alloc o2) := ((Below.refl _ _).alloc (Nat.le_refl _) o1).alloc (by simp) o2
theorem two_new0 (w : World) (o1 o2 : Obj) : ((w.alloc o1).alloc o2).heap[w.heap.size]? = some o1 := (Below.heap_alloc (w.alloc o1) o2 w.heap.size (by simp)).trans (heap_alloc_new w o1)
set_option maxRecDepth 100000 in
set_option maxHeartbeats 4000000 in
theorem nests_walk (x : Nat) (hx : x < 65536) (w : World) (hE : MEnv w) : Calls Tryz.prog 5 #[.int .u16 (x : Int)] w fun e w' => e = .returned (.bool true) ∧ Below w.heap.size w w' := by
  have HE := Lib.hid hE
  have HX := Lib.hid (examples07 w hE)
  clear hE
  obtain ⟨k, hk⟩ : ∃ k, x % 301 = k := ⟨_, rfl⟩
  have hk3 : k ≤ 300 := by omega
  have hkI : (x : Int) % 301 = (k : Int) := by omega
  clear hk
  go_enter Tryz.func5, Tryz.ntmps5
  go_wp2_with fail
  refine HX.out.mono ?_
  rintro e w1 ⟨rfl, c1⟩
  have C1 := Lib.hid c1
  clear c1
  go_wp2_with fail
  rw [hkI]
  clear hkI
  go_loopw [5, 6] (fun v i wr => ∃ j : Nat, j ≤ k ∧ i = .int .i64 j ∧ (∃ a cap, v = .slice a j cap ∧ Cod wr w1.heap.size (.slice a j cap) (opensC j)) ∧ Below w1.heap.size w1 wr) (fun _ i _ => 400 - (Go.RowKit.intOf i).toNat)
  case atStart => exact ⟨0, Nat.zero_le _, rfl, ⟨none, 0, rfl, Cod.nil _ _⟩, Below.refl _ _⟩
  case round =>
    obtain ⟨j, hj, rfl, ⟨ca, cc, rfl, hco⟩, hB⟩ := hrel
    have H0 := Lib.hid hco
    have B0 := Lib.hid hB
    have HOL := Lib.hid (opensC_len j)
    clear hco hB
    by_cases hlt : j < k
    · have e1 : decide ((j : Int) < (k : Int)) = true := decide_eq_true (by omega)
      have e1' : decide (j < k) = true := decide_eq_true hlt
      go_wp2_with (at_builtin; refine wpList_ins rfl _ _ rfl rfl H0.out (2 + (j : Int) % 2) 64 0 rfl (by rw [HOL.out]; omega) B0.out.size ?_)
      intro a1 p1 w11 o1 k1 _
      have H1 := Lib.hid (show Cod w11 w1.heap.size (.slice a1 (j + 1) p1) (opensC (j + 1)) by rw [opensC_succ]; exact cod_len o1 (by rw [HOL.out]))
      have B1 := Lib.hid (B0.out.trans (own_below H0.out k1 B0.out.size))
      clear o1 k1
      go_wp2_with fail
      go_roundw
      case rel => exact ⟨j + 1, by omega, by go_num, ⟨a1, p1, by first | rfl | rw [opensC_len], H1.out⟩, B1.out⟩
      case measure => simp [Go.RowKit.intOf]; omega
    · obtain rfl : j = k := by omega
      have e1 : decide ((j : Int) < (j : Int)) = false := decide_eq_false (by omega)
      have e1' : decide (j < j) = false := decide_eq_false (by omega)
      obtain ⟨w2, rfl⟩ : ∃ w2, w2 = wr := ⟨_, rfl⟩
      go_wp2_with fail
      go_loopw [5, 7] (fun v i wr => ∃ n : Nat, n ≤ j + 1 ∧ i = .int .i64 n ∧ (∃ a cap, v = .slice a (j + n) cap ∧ Cod wr w1.heap.size (.slice a (j + n) cap) (opensC j ++ endsC n)) ∧ Below w1.heap.size w1 wr) (fun _ i _ => 400 - (Go.RowKit.intOf i).toNat)
      case atStart => exact ⟨0, Nat.zero_le _, rfl, ⟨ca, cc, rfl, by unfold endsC; rw [List.replicate_zero, List.append_nil]; exact H0.out⟩, B0.out⟩
      case round =>
        obtain ⟨n, hn, rfl, ⟨ea, ec, rfl, hco⟩, hB⟩ := hrel
        have E0 := Lib.hid hco
        have G0 := Lib.hid hB
        have HEL := Lib.hid (show (opensC j ++ endsC n).length = j + n by rw [List.length_append, HOL.out]; simp [endsC])
        clear hco hB
        by_cases hlt2 : n < j + 1
        · have e2 : decide ((n : Int) < (j : Int) + 1) = true := decide_eq_true (by omega)
          have e2' : decide (n < j + 1) = true := decide_eq_true hlt2
          go_wp2_with (at_builtin; refine wpList_ins rfl _ _ rfl rfl E0.out 11 0 0 rfl (by rw [HEL.out]; omega) G0.out.size ?_)
          intro a1 p1 w11 o1 k1 _
          have E1 := Lib.hid (show Cod w11 w1.heap.size (.slice a1 (j + (n + 1)) p1) (opensC j ++ endsC (n + 1)) by rw [endsC_succ]; exact cod_len o1 (by rw [opensC_len, endsC_len]; omega))
          have G1 := Lib.hid (G0.out.trans (own_below E0.out k1 G0.out.size))
          clear o1 k1
          go_wp2_with fail
          go_roundw
          case rel => exact ⟨n + 1, by omega, by go_num, ⟨a1, p1, by rw [opensC_len, endsC_len, show j + n + 1 = j + (n + 1) by omega], E1.out⟩, G1.out⟩
          case measure => simp [Go.RowKit.intOf]; omega
        · obtain rfl : n = j + 1 := by omega
          have e2 : decide (((j + 1 : Nat) : Int) < (j : Int) + 1) = false := decide_eq_false (by omega)
          have e2' : decide (j + 1 < j + 1) = false := decide_eq_false (by omega)
          have e2'' : decide ((j : Int) + 1 < (j : Int) + 1) = false := decide_eq_false (by omega)
          obtain ⟨w3, rfl⟩ : ∃ w3, w3 = wr := ⟨_, rfl⟩
          have HC := Lib.hid (show CodeAt w3 (.slice ea (j + (j + 1)) ec) ((nestC j []).map tL) by
            have h := E0.out.at (by rw [HEL.out]; omega) (by
              have := nestC_wf j [] (fun x hx => by cases hx)
              unfold nestC at this
              rw [List.append_nil] at this
              exact this)
            unfold nestC
            rw [List.append_nil]
            exact h)
          go_wp2_with fail
          refine (func_any _ _ _ _ _ _ _ (mod1 []) _ (mod1_at (bt := w3.heap.size) (by exact two_new0 w3 _ _) (list_nil _)) (HE.out.later (C1.out.trans ((G0.out.trans ((below2 w3 _ _).mono G0.out.size)).mono C1.out.size))) (fn0 (nestC j [])) _ (ListAt.later lasts_ins HC.out (below2 w3 _ _)) (show 0 ≤ 9223372036854775807 by decide) (by show ((nestC j []).map tL).length ≤ 1000000; rw [List.length_map, nestC_len]; show j + 0 + (j + 1) ≤ _; omega)).mono ?_
          rw [law_nest]
          obtain ⟨R, hR⟩ : ∃ R : Int, (if 256 < (j : Int) then (5 : Int) else 0) = R := ⟨_, rfl⟩
          rw [hR]
          have HR := Lib.hid hR
          clear hR
          rintro e w4 ⟨rfl, c4⟩
          have G4 := Lib.hid (G0.out.trans (((below2 w3 _ _).trans (c4.mono (below2 w3 _ _).size)).mono G0.out.size))
          have HC4 := Lib.hid (ListAt.later lasts_ins HC.out ((below2 w3 _ _).trans (c4.mono (below2 w3 _ _).size)))
          clear c4
          go_wp2_with fail
          refine (nest_any _ ((nestC j []).map tL) _ HC4.out (by rw [List.length_map, nestC_len]; show j + 0 + (j + 1) ≤ _; omega)).mono ?_
          rw [nest_nil]
          rintro e w5 ⟨rfl, c5⟩
          have G5 := Lib.hid (C1.out.trans ((G4.out.trans (c5.mono G4.out.size)).mono C1.out.size))
          clear c5
          by_cases h256 : j ≤ 256
          · have d1 : decide ((j : Int) ≤ 256) = true := decide_eq_true (by omega)
            have d1' : decide (j ≤ 256) = true := decide_eq_true h256
            have d2 : ¬ (256 : Int) < (j : Int) := by omega
            obtain rfl : R = 0 := by rw [← HR.out, if_neg d2]
            go_wp2_with fail
            go_ret
            exact ⟨rfl, G5.out⟩
          · have d1 : decide ((j : Int) ≤ 256) = false := decide_eq_false (by omega)
            have d1' : decide (j ≤ 256) = false := decide_eq_false h256
            have d3 : decide ((256 : Int) < (j : Int)) = true := decide_eq_true (by omega)
            have d3' : decide (256 < j) = true := decide_eq_true (by omega)
            have d2 : (256 : Int) < (j : Int) := by omega
            obtain rfl : R = 5 := by rw [← HR.out, if_pos d2]
            go_wp2_with fail
            go_ret
            exact ⟨rfl, G5.out⟩
end Go.Proofs.YthcjgdmmpopplaaGreatDoor.Vld
