/-
  The law of labels: the walk. No condition beyond what each theorem names.
-/
import Derived.Test.YthcjgdmmpopplaaGreatDoorVldNestW
namespace Go.Proofs.YthcjgdmmpopplaaGreatDoor.Vld
open Go.RowKit Go.Maps Go.Lib Go.Proofs.YthcjgdmmpopplaaGreatDoor.Op Go.Proofs.YthcjgdmmpopplaaGreatDoor.Mod Go.Proofs.YthcjgdmmpopplaaGreatDoor.Pg
set_option linter.unusedVariables false
set_option maxRecDepth 100000 in
set_option maxHeartbeats 4000000 in
theorem labels_walk (x y : Nat) (hx : x < 256) (hy : y < 256) (w : World) (hE : MEnv w) : Calls Tryz.prog 7 #[.int .u8 (x : Int), .int .u8 (y : Int)] w fun e w' => e = .returned (.bool true) ∧ Below w.heap.size w w' := by
  have HE := Lib.hid hE
  have HX := Lib.hid (examples07 w hE)
  clear hE
  obtain ⟨k, hk⟩ : ∃ k, x % 20 = k := ⟨_, rfl⟩
  obtain ⟨l, hl⟩ : ∃ l, y % 24 = l := ⟨_, rfl⟩
  have hk3 : k < 20 := by omega
  have hl3 : l < 24 := by omega
  have hkI : (x : Int) % 20 = (k : Int) := by omega
  have HL := Lib.hid (show (y : Int) % 24 = (l : Int) by omega)
  clear hk hl
  go_enter Tryz.func7, Tryz.ntmps7
  go_wp2_with fail
  refine HX.out.mono ?_
  rintro e w1 ⟨rfl, c1⟩
  have C1 := Lib.hid c1
  clear c1
  go_wp2_with fail
  rw [hkI]
  clear hkI
  go_loopw [7, 8] (fun v i wr => ∃ j : Nat, j ≤ k ∧ i = .int .i64 j ∧ (∃ a cap, v = .slice a j cap ∧ Cod wr w1.heap.size (.slice a j cap) (opensC j)) ∧ Below w1.heap.size w1 wr) (fun _ i _ => 400 - (Go.RowKit.intOf i).toNat)
  case atStart => exact ⟨0, Nat.zero_le _, rfl, ⟨none, 0, rfl, Cod.nil _ _⟩, Below.refl _ _⟩
  case round =>
    obtain ⟨j, hj, rfl, ⟨ca, cc, rfl, hco⟩, hB⟩ := hrel
    have H0 := Lib.hid hco
    have B0 := Lib.hid hB
    have HOL := Lib.hid (opensC_len j)
    clear hco hB
    by_cases hlt : j < k
    · have e1 : decide ((j : Int) < (k : Int)) = true := decide_eq_true (by omega)
      have e1' : decide (j < k) = true := decide_eq_true hlt
      go_wp2_with (at_builtin; refine wpList_ins rfl _ _ rfl rfl H0.out (2 + (j : Int) % 2) 64 0 rfl (by rw [HOL.out]; omega) B0.out.size ?_)
      intro a1 p1 w11 o1 k1 _
      have H1 := Lib.hid (show Cod w11 w1.heap.size (.slice a1 (j + 1) p1) (opensC (j + 1)) by rw [opensC_succ]; exact cod_len o1 (by rw [HOL.out]))
      have B1 := Lib.hid (B0.out.trans (own_below H0.out k1 B0.out.size))
      clear o1 k1
      go_wp2_with fail
      go_roundw
      case rel => exact ⟨j + 1, by omega, by go_num, ⟨a1, p1, by first | rfl | rw [opensC_len], H1.out⟩, B1.out⟩
      case measure => simp [Go.RowKit.intOf]; omega
    · obtain rfl : j = k := by omega
      have e1 : decide ((j : Int) < (j : Int)) = false := decide_eq_false (by omega)
      have e1' : decide (j < j) = false := decide_eq_false (by omega)
      obtain ⟨w2, rfl⟩ : ∃ w2, w2 = wr := ⟨_, rfl⟩
      have hlI := HL.out
      go_wp2_with (at_builtin; refine wpList_ins rfl _ _ rfl rfl H0.out 12 (l : Int) 0 rfl (by rw [HOL.out]; omega) B0.out.size ?_)
      intro am pm wm om km _
      have M0 := Lib.hid (show Cod wm w1.heap.size (.slice am (j + 1) pm) (opensC j ++ [⟨12, (l : Int), 0⟩]) from cod_len om (by rw [HOL.out]))
      have MB := Lib.hid (B0.out.trans (own_below H0.out km B0.out.size))
      rw [HOL.out]
      clear om km hlI
      go_wp2_with fail
      go_loopw [7, 9] (fun v i wr => ∃ n : Nat, n ≤ j + 1 ∧ i = .int .i64 n ∧ (∃ a cap, v = .slice a (j + 1 + n) cap ∧ Cod wr w1.heap.size (.slice a (j + 1 + n) cap) (opensC j ++ [⟨12, (l : Int), 0⟩] ++ endsC n)) ∧ Below w1.heap.size w1 wr) (fun _ i _ => 400 - (Go.RowKit.intOf i).toNat)
      case atStart => exact ⟨0, Nat.zero_le _, rfl, ⟨am, pm, rfl, by unfold endsC; rw [List.replicate_zero, List.append_nil]; exact M0.out⟩, MB.out⟩
      case round =>
        obtain ⟨n, hn, rfl, ⟨ea, ec, rfl, hco⟩, hB⟩ := hrel
        obtain ⟨D, hD⟩ : ∃ D, opensC j ++ [⟨12, (l : Int), 0⟩] ++ endsC n = D := ⟨_, rfl⟩
        have HEL := Lib.hid (show D.length = j + 1 + n by rw [← hD, List.length_append, List.length_append, HOL.out, endsC_len]; rfl)
        rw [hD] at hco
        have HD := Lib.hid hD
        have E0 := Lib.hid hco
        have G0 := Lib.hid hB
        clear hco hB hD
        by_cases hlt2 : n < j + 1
        · have e2 : decide ((n : Int) ≤ (j : Int)) = true := decide_eq_true (by omega)
          have e2' : decide (n ≤ j) = true := decide_eq_true (by omega)
          go_wp2_with (at_builtin; refine wpList_ins rfl _ _ rfl rfl E0.out 11 0 0 rfl (by rw [HEL.out]; omega) G0.out.size ?_)
          intro a1 p1 w11 o1 k1 _
          have E1 := Lib.hid (show Cod w11 w1.heap.size (.slice a1 (j + 1 + (n + 1)) p1) (opensC j ++ [⟨12, (l : Int), 0⟩] ++ endsC (n + 1)) by rw [endsC_succ, ← List.append_assoc, HD.out]; exact cod_len o1 (by rw [HEL.out]; omega))
          have G1 := Lib.hid (G0.out.trans (own_below E0.out k1 G0.out.size))
          clear o1 k1
          go_wp2_with fail
          go_roundw
          case rel => exact ⟨n + 1, by omega, by go_num, ⟨a1, p1, by rw [HEL.out, show j + 1 + n + 1 = j + 1 + (n + 1) by omega], E1.out⟩, G1.out⟩
          case measure => simp [Go.RowKit.intOf]; omega
        · obtain rfl : n = j + 1 := by omega
          have e2 : decide (((j + 1 : Nat) : Int) ≤ (j : Int)) = false := decide_eq_false (by omega)
          have e2' : decide (j + 1 ≤ j) = false := decide_eq_false (by omega)
          have e2'' : decide ((j : Int) + 1 ≤ (j : Int)) = false := decide_eq_false (by omega)
          obtain ⟨w3, rfl⟩ : ∃ w3, w3 = wr := ⟨_, rfl⟩
          have HC := Lib.hid (show CodeAt w3 (.slice ea (j + 1 + (j + 1)) ec) ((nestC j [⟨12, (l : Int), 0⟩]).map tL) by
            have h := E0.out.at (by rw [HEL.out]; omega) (by
              rw [← HD.out]
              exact nestC_wf j [⟨12, (l : Int), 0⟩] (fun x hx => by rw [List.mem_singleton.1 hx]; exact (show (Lit.int .i64 12).wf = true by decide)))
            rw [← HD.out] at h
            exact h)
          have hlI := HL.out
          obtain ⟨R, hR⟩ : ∃ R : Int, (if l ≤ j then (0 : Int) else 4) = R := ⟨_, rfl⟩
          have HR := Lib.hid hR
          clear hR
          go_wp2_with fail
          refine (func_any _ _ _ _ _ _ _ (mod1 []) _ (mod1_at (bt := w3.heap.size) (by exact two_new0 w3 _ _) (list_nil _)) (HE.out.later (C1.out.trans ((G0.out.trans ((below2 w3 _ _).mono G0.out.size)).mono C1.out.size))) (fn0 (nestC j [⟨12, (l : Int), 0⟩])) _ (ListAt.later lasts_ins HC.out (below2 w3 _ _)) (show 0 ≤ 9223372036854775807 by decide) (by show ((nestC j [⟨12, (l : Int), 0⟩]).map tL).length ≤ 1000000; rw [List.length_map, nestC_len]; show j + 1 + (j + 1) ≤ _; omega)).mono ?_
          rw [law_br j l hk3 hl3, HR.out]
          rintro e w4 ⟨rfl, c4⟩
          have G4 := Lib.hid (C1.out.trans ((G0.out.trans (((below2 w3 _ _).trans (c4.mono (below2 w3 _ _).size)).mono G0.out.size)).mono C1.out.size))
          clear c4
          by_cases hlj : l ≤ j
          · have d1 : decide ((l : Int) ≤ (j : Int)) = true := decide_eq_true (by omega)
            have d1' : decide (l ≤ j) = true := decide_eq_true hlj
            obtain rfl : R = 0 := by rw [← HR.out, if_pos hlj]
            go_wp2_with fail
            go_ret
            exact ⟨rfl, G4.out⟩
          · have d1 : decide ((l : Int) ≤ (j : Int)) = false := decide_eq_false (by omega)
            have d1' : decide (l ≤ j) = false := decide_eq_false hlj
            obtain rfl : R = 4 := by rw [← HR.out, if_neg hlj]
            go_wp2_with fail
            go_ret
            exact ⟨rfl, G4.out⟩
end Go.Proofs.YthcjgdmmpopplaaGreatDoor.Vld
