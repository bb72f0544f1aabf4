/-
  The law of blocks: the walk itself. No condition beyond what each theorem names.
-/
import Derived.Test.YthkdegmnnbepdaaGreatDoorModBlocks
namespace Go.Proofs.YthkdegmnnbepdaaGreatDoor.Mod
open Go.RowKit Go.Maps Go.Proofs.YthkdegmnnbepdaaGreatDoor.Op Go.Proofs.YthkdegmnnbepdaaGreatDoor.Pg
set_option linter.unusedVariables false
set_option maxRecDepth 100000 in
set_option maxHeartbeats 8000000 in
theorem blocks_walk (v : Value) (xs : List Nat) (w : World) (hE : MEnv w) (hP : PowEnv w) (hx : ∀ x ∈ xs, x < 256) (hv : NumsAt .u8 w v (xs.map fun (x : Nat) => (x : Int))) :
    Calls Tryz.prog 7 #[v] w fun e w' => e = .returned (.bool true) ∧ Below w.heap.size w w' := by
  obtain ⟨la, lc, rfl, hlen, hcell⟩ := hv
  rw [List.length_map] at hlen ⊢
  have HX := Lib.hid (examples04 w hE hP)
  have HC := Lib.hid hcell
  have HB := Lib.hid hx
  clear hE hP hcell hx
  go_enter Tryz.func7, Tryz.ntmps7
  go_wp2_with fail
  refine HX.out.mono ?_
  rintro e w1 ⟨rfl, c1⟩
  have C1 := Lib.hid c1
  clear c1
  go_wp2_with fail
  go_loopw [4, 5, 6] (fun v n i wr => ∃ k : Nat, k ≤ xs.length ∧ k ≤ 40 ∧ i = .int .i64 k ∧ n = .int .i64 (blocksN (xs.take k) : Nat) ∧ (∃ a cap, v = .slice a (blocksC (xs.take k)).length cap ∧ Cod wr w.heap.size (.slice a (blocksC (xs.take k)).length cap) (blocksC (xs.take k))) ∧ Below w.heap.size w wr) (fun _ _ i _ => 60 - (intOf i).toNat)
  case atStart => exact ⟨0, Nat.zero_le _, Nat.zero_le _, rfl, rfl, ⟨none, 0, rfl, Cod.nil _ _⟩, C1.out⟩
  case round =>
    obtain ⟨k, hk1, hk2, rfl, rfl, ⟨ca, cc, rfl, hco⟩, hB⟩ := hrel
    obtain ⟨C, hC⟩ : ∃ C, blocksC (xs.take k) = C := ⟨_, rfl⟩
    obtain ⟨N, hN⟩ : ∃ N, blocksN (xs.take k) = N := ⟨_, rfl⟩
    have hNL : N ≤ 40 := by rw [← hN]; have := blocksN_le (xs.take k); rw [List.length_take] at this; omega
    have hCL : C.length ≤ 120 := by rw [← hC]; have := blocksC_len (xs.take k); rw [List.length_take] at this; omega
    rw [hC] at hco ⊢
    rw [hN]
    have HCC := Lib.hid hC
    have HNN := Lib.hid hN
    have H0 := Lib.hid hco
    have B0 := Lib.hid hB
    clear hco hB hC hN
    by_cases hlt : k < xs.length ∧ k < 40
    · obtain ⟨hlt1, hlt2⟩ := hlt
      obtain ⟨x, hxk⟩ : ∃ x, xs[k]? = some x := ⟨_, List.getElem?_eq_getElem hlt1⟩
      obtain ⟨b, off, rfl, hcl⟩ := HC.out k (x : Int) (by rw [List.getElem?_map, hxk]; rfl)
      have hx8 : x < 256 := HB.out x (List.mem_of_getElem? hxk)
      have q0 : wr.cell? ⟨b, off + k, none⟩ = some (.int .u8 (x : Int)) := cell_later B0.out hcl
      have HQ := Lib.hid hcl
      have HSN := Lib.hid (blocksC_snoc hxk)
      have HNS := Lib.hid (blocksN_snoc hxk)
      clear hcl hxk
      have d1 : decide (k < xs.length) = true := decide_eq_true hlt1
      have d2 : decide ((k : Int) < 40) = true := decide_eq_true (by omega)
      have hm := Lib.hid (show (isElse x = false ∧ x % 3 ≠ 2) ∨ (isElse x = false ∧ x % 3 = 2 ∧ x ≤ 100) ∨ (isElse x = true ∧ x % 3 = 2 ∧ 100 < x) by
        unfold isElse
        by_cases h1 : x % 3 = 2 <;> by_cases h2 : 100 < x <;> simp [h1, h2] <;> omega)
      by_cases h2 : 200 < x
      · have h200 := Lib.hid h2
        rcases hm.out with ⟨g1, g2⟩ | ⟨g1, g2, g3⟩ | ⟨g1, g2, g3⟩
        · have he := Lib.hid g1
          clear g1
          have t1 : (2 + (x : Int) % 3 == 4) = false := by simp; omega
          have t3 : decide (200 < (x : Int)) = true := decide_eq_true (by omega)
          go_wp2_with (at_builtin; refine wpList_ins rfl _ _ rfl rfl H0.out (2 + (x : Int) % 3) 64 0 rfl (by first | omega | (simp; omega)) B0.out.size ?_)
          intro a1 p1 w11 o1 k1 _
          have H1 := Lib.hid o1
          have B1 := Lib.hid (B0.out.trans (own_below H0.out k1 B0.out.size))
          have q1 : w11.cell? ⟨b, off + k, none⟩ = some (.int .u8 (x : Int)) := cell_later B1.out HQ.out
          clear o1 k1 q0
          go_wp2_with (at_builtin; refine wpList_ins rfl _ _ rfl rfl H1.out (11) 0 0 rfl (by first | omega | (simp; omega)) B1.out.size ?_)
          intro a2 p2 w12 o2 k2 _
          have H2 := Lib.hid o2
          have B2 := Lib.hid (B1.out.trans (own_below H1.out k2 B1.out.size))
          have q2 : w12.cell? ⟨b, off + k, none⟩ = some (.int .u8 (x : Int)) := cell_later B2.out HQ.out
          clear o2 k2 q1
          go_wp2_with fail
          obtain ⟨r1, r2⟩ := blockR_b he.out h200.out
          have e1 : (blocksC (xs.take (k + 1))).length = C.length + 1 + 1 := by rw [HSN.out, HCC.out, r1]; simp
          have e2 : blocksC (xs.take (k + 1)) = C ++ [⟨2 + (x : Int) % 3, 64, 0⟩, ⟨11, 0, 0⟩] := by rw [HSN.out, HCC.out, r1]
          have e3 : blocksN (xs.take (k + 1)) = N + 0 := by rw [HNS.out, HNN.out, r2]
          go_roundw
          case rel => exact ⟨k + 1, by omega, by omega, by go_num, by rw [e3]; first | done | rfl | go_num, ⟨a2, p2, by rw [e1], by rw [e1, e2]; exact (cod_len H2.out (by omega))⟩, B2.out⟩
          case measure => simp [intOf]; omega
        · have he := Lib.hid g1
          clear g1
          exact absurd h2 (by omega)
        · have he := Lib.hid g1
          clear g1
          have t1 : (2 + (x : Int) % 3 == 4) = true := by simp; omega
          have t2 : decide (100 < (x : Int)) = true := decide_eq_true (by omega)
          have t3 : decide (200 < (x : Int)) = true := decide_eq_true (by omega)
          go_wp2_with (at_builtin; refine wpList_ins rfl _ _ rfl rfl H0.out (2 + (x : Int) % 3) 64 0 rfl (by first | omega | (simp; omega)) B0.out.size ?_)
          intro a1 p1 w11 o1 k1 _
          have H1 := Lib.hid o1
          have B1 := Lib.hid (B0.out.trans (own_below H0.out k1 B0.out.size))
          have q1 : w11.cell? ⟨b, off + k, none⟩ = some (.int .u8 (x : Int)) := cell_later B1.out HQ.out
          clear o1 k1 q0
          go_wp2_with (at_builtin; refine wpList_ins rfl _ _ rfl rfl H1.out (5) 0 0 rfl (by first | omega | (simp; omega)) B1.out.size ?_)
          intro a2 p2 w12 o2 k2 _
          have H2 := Lib.hid o2
          have B2 := Lib.hid (B1.out.trans (own_below H1.out k2 B1.out.size))
          have q2 : w12.cell? ⟨b, off + k, none⟩ = some (.int .u8 (x : Int)) := cell_later B2.out HQ.out
          clear o2 k2 q1
          go_wp2_with (at_builtin; refine wpList_ins rfl _ _ rfl rfl H2.out (11) 0 0 rfl (by first | omega | (simp; omega)) B2.out.size ?_)
          intro a3 p3 w13 o3 k3 _
          have H3 := Lib.hid o3
          have B3 := Lib.hid (B2.out.trans (own_below H2.out k3 B2.out.size))
          have q3 : w13.cell? ⟨b, off + k, none⟩ = some (.int .u8 (x : Int)) := cell_later B3.out HQ.out
          clear o3 k3 q2
          go_wp2_with fail
          obtain ⟨r1, r2⟩ := blockR_d he.out h200.out
          have e1 : (blocksC (xs.take (k + 1))).length = C.length + 1 + 1 + 1 := by rw [HSN.out, HCC.out, r1]; simp
          have e2 : blocksC (xs.take (k + 1)) = C ++ [⟨2 + (x : Int) % 3, 64, 0⟩, ⟨5, 0, 0⟩, ⟨11, 0, 0⟩] := by rw [HSN.out, HCC.out, r1]
          have e3 : blocksN (xs.take (k + 1)) = N + 0 := by rw [HNS.out, HNN.out, r2]
          go_roundw
          case rel => exact ⟨k + 1, by omega, by omega, by go_num, by rw [e3]; first | done | rfl | go_num, ⟨a3, p3, by rw [e1], by rw [e1, e2]; exact (cod_len H3.out (by omega))⟩, B3.out⟩
          case measure => simp [intOf]; omega
      · have h200 := Lib.hid h2
        rcases hm.out with ⟨g1, g2⟩ | ⟨g1, g2, g3⟩ | ⟨g1, g2, g3⟩
        · have he := Lib.hid g1
          clear g1
          have t1 : (2 + (x : Int) % 3 == 4) = false := by simp; omega
          have t3 : decide (200 < (x : Int)) = false := decide_eq_false (by omega)
          go_wp2_with (at_builtin; refine wpList_ins rfl _ _ rfl rfl H0.out (2 + (x : Int) % 3) 64 0 rfl (by first | omega | (simp; omega)) B0.out.size ?_)
          intro a1 p1 w11 o1 k1 _
          have H1 := Lib.hid o1
          have B1 := Lib.hid (B0.out.trans (own_below H0.out k1 B0.out.size))
          have q1 : w11.cell? ⟨b, off + k, none⟩ = some (.int .u8 (x : Int)) := cell_later B1.out HQ.out
          clear o1 k1 q0
          go_wp2_with fail
          obtain ⟨r1, r2⟩ := blockR_a he.out h200.out
          have e1 : (blocksC (xs.take (k + 1))).length = C.length + 1 := by rw [HSN.out, HCC.out, r1]; simp
          have e2 : blocksC (xs.take (k + 1)) = C ++ [⟨2 + (x : Int) % 3, 64, 0⟩] := by rw [HSN.out, HCC.out, r1]
          have e3 : blocksN (xs.take (k + 1)) = N + 1 := by rw [HNS.out, HNN.out, r2]
          go_roundw
          case rel => exact ⟨k + 1, by omega, by omega, by go_num, by rw [e3]; first | done | rfl | go_num, ⟨a1, p1, by rw [e1], by rw [e1, e2]; exact (cod_len H1.out (by omega))⟩, B1.out⟩
          case measure => simp [intOf]; omega
        · have he := Lib.hid g1
          clear g1
          have t1 : (2 + (x : Int) % 3 == 4) = true := by simp; omega
          have t2 : decide (100 < (x : Int)) = false := decide_eq_false (by omega)
          have t3 : decide (200 < (x : Int)) = false := decide_eq_false (by omega)
          go_wp2_with (at_builtin; refine wpList_ins rfl _ _ rfl rfl H0.out (2 + (x : Int) % 3) 64 0 rfl (by first | omega | (simp; omega)) B0.out.size ?_)
          intro a1 p1 w11 o1 k1 _
          have H1 := Lib.hid o1
          have B1 := Lib.hid (B0.out.trans (own_below H0.out k1 B0.out.size))
          have q1 : w11.cell? ⟨b, off + k, none⟩ = some (.int .u8 (x : Int)) := cell_later B1.out HQ.out
          clear o1 k1 q0
          go_wp2_with fail
          obtain ⟨r1, r2⟩ := blockR_a he.out h200.out
          have e1 : (blocksC (xs.take (k + 1))).length = C.length + 1 := by rw [HSN.out, HCC.out, r1]; simp
          have e2 : blocksC (xs.take (k + 1)) = C ++ [⟨2 + (x : Int) % 3, 64, 0⟩] := by rw [HSN.out, HCC.out, r1]
          have e3 : blocksN (xs.take (k + 1)) = N + 1 := by rw [HNS.out, HNN.out, r2]
          go_roundw
          case rel => exact ⟨k + 1, by omega, by omega, by go_num, by rw [e3]; first | done | rfl | go_num, ⟨a1, p1, by rw [e1], by rw [e1, e2]; exact (cod_len H1.out (by omega))⟩, B1.out⟩
          case measure => simp [intOf]; omega
        · have he := Lib.hid g1
          clear g1
          have t1 : (2 + (x : Int) % 3 == 4) = true := by simp; omega
          have t2 : decide (100 < (x : Int)) = true := decide_eq_true (by omega)
          have t3 : decide (200 < (x : Int)) = false := decide_eq_false (by omega)
          go_wp2_with (at_builtin; refine wpList_ins rfl _ _ rfl rfl H0.out (2 + (x : Int) % 3) 64 0 rfl (by first | omega | (simp; omega)) B0.out.size ?_)
          intro a1 p1 w11 o1 k1 _
          have H1 := Lib.hid o1
          have B1 := Lib.hid (B0.out.trans (own_below H0.out k1 B0.out.size))
          have q1 : w11.cell? ⟨b, off + k, none⟩ = some (.int .u8 (x : Int)) := cell_later B1.out HQ.out
          clear o1 k1 q0
          go_wp2_with (at_builtin; refine wpList_ins rfl _ _ rfl rfl H1.out (5) 0 0 rfl (by first | omega | (simp; omega)) B1.out.size ?_)
          intro a2 p2 w12 o2 k2 _
          have H2 := Lib.hid o2
          have B2 := Lib.hid (B1.out.trans (own_below H1.out k2 B1.out.size))
          have q2 : w12.cell? ⟨b, off + k, none⟩ = some (.int .u8 (x : Int)) := cell_later B2.out HQ.out
          clear o2 k2 q1
          go_wp2_with fail
          obtain ⟨r1, r2⟩ := blockR_c he.out h200.out
          have e1 : (blocksC (xs.take (k + 1))).length = C.length + 1 + 1 := by rw [HSN.out, HCC.out, r1]; simp
          have e2 : blocksC (xs.take (k + 1)) = C ++ [⟨2 + (x : Int) % 3, 64, 0⟩, ⟨5, 0, 0⟩] := by rw [HSN.out, HCC.out, r1]
          have e3 : blocksN (xs.take (k + 1)) = N + 1 := by rw [HNS.out, HNN.out, r2]
          go_roundw
          case rel => exact ⟨k + 1, by omega, by omega, by go_num, by rw [e3]; first | done | rfl | go_num, ⟨a2, p2, by rw [e1], by rw [e1, e2]; exact (cod_len H2.out (by omega))⟩, B2.out⟩
          case measure => simp [intOf]; omega
    · have hex : decide (k < xs.length) = false ∨ (decide (k < xs.length) = true ∧ decide ((k : Int) < 40) = false) := by
        rcases (show k = xs.length ∨ (k < xs.length ∧ k = 40) by omega) with h9 | ⟨h9, h8⟩
        · exact .inl (decide_eq_false (by omega))
        · exact .inr ⟨decide_eq_true h9, decide_eq_false (by omega)⟩
      obtain ⟨wq, hwq⟩ : ∃ wq : World, wq = wr := ⟨_, rfl⟩
      rw [← hwq] at H0 B0 ⊢
      clear hwq
      have HRUN := Lib.hid (show runS [] ((C ++ List.replicate N (⟨11, 0, 0⟩ : Ins)).map Ins.op) = some [] by rw [← HCC.out, ← HNN.out]; exact closed_run (xs.take k))
      rcases hex with d1 | ⟨d1, d2⟩
      all_goals
        go_wp2_with fail
        go_loopw [4, 8] (fun v i wr => ∃ j : Nat, j ≤ N ∧ i = .int .i64 j ∧ (∃ a cap, v = .slice a (C.length + j) cap ∧ Cod wr w.heap.size (.slice a (C.length + j) cap) (C ++ List.replicate j ⟨11, 0, 0⟩)) ∧ Below w.heap.size w wr) (fun _ i _ => 60 - (intOf i).toNat)
        case atStart => exact ⟨0, Nat.zero_le _, rfl, ⟨ca, cc, rfl, by rw [List.replicate_zero, List.append_nil]; exact H0.out⟩, B0.out⟩
        case round =>
          obtain ⟨j, hj, rfl, ⟨ea, ec, rfl, hco⟩, hB⟩ := hrel
          have E0 := Lib.hid hco
          have G0 := Lib.hid hB
          have HEL := Lib.hid (show (C ++ List.replicate j (⟨11, 0, 0⟩ : Ins)).length = C.length + j by simp)
          clear hco hB
          by_cases hlt : j < N
          · have e1 : decide ((j : Int) < (N : Int)) = true := decide_eq_true (by omega)
            have e1' : decide (j < N) = true := decide_eq_true hlt
            go_wp2_with (at_builtin; refine wpList_ins rfl _ _ rfl rfl E0.out 11 0 0 rfl (by rw [HEL.out]; omega) G0.out.size ?_)
            intro a1 p1 w11 o1 k1 _
            have E1 := Lib.hid o1
            have G1 := Lib.hid (G0.out.trans (own_below E0.out k1 G0.out.size))
            clear o1 k1
            go_wp2_with fail
            go_roundw
            case rel => exact ⟨j + 1, by omega, by go_num, ⟨a1, p1, rfl, by rw [List.replicate_succ']; exact E1.out⟩, G1.out⟩
            case measure => simp [intOf]; omega
          · obtain rfl : j = N := by omega
            have e1 : decide ((j : Int) < (j : Int)) = false := decide_eq_false (by omega)
            have e1' : decide (j < j) = false := decide_eq_false (by omega)
            obtain ⟨D, hD⟩ : ∃ D, C ++ List.replicate j (⟨11, 0, 0⟩ : Ins) = D := ⟨_, rfl⟩
            rw [hD] at E0 HRUN HEL
            have HDD := Lib.hid hD
            clear hD
            have hDL : D.length ≤ 1000 := by rw [HEL.out]; omega
            have HOPS := Lib.hid (show ∀ x ∈ D, (Lit.int .i64 x.op).wf = true by
              rw [← HDD.out, ← HCC.out]
              exact closed_wf (xs.take k) j)
            rw [← HEL.out] at E0 ⊢
            obtain ⟨wz, hwz⟩ : ∃ wz : World, wz = wr := ⟨_, rfl⟩
            rw [← hwz] at E0 G0 ⊢
            clear hwz HEL
            go_wp2_with (at_builtin; refine wpList_whole rfl _ _ rfl rfl (Cod.nil _ _) rfl E0.out (by simp; omega) (Nat.le_refl _) ?_)
            intro a1 p1 w11 o1 k1 _
            have M1 := Lib.hid (show Cod w11 wz.heap.size (.slice a1 D.length p1) D from by simpa using o1)
            have K1 := Lib.hid (k1.below (B := wz.heap.size) (fun j hj => by simp [Value.ownBlock] at hj) (Nat.le_refl _))
            clear o1 k1
            go_wp2_with (at_builtin; refine wpList_ins rfl _ _ rfl rfl M1.out 11 0 0 rfl (by omega) K1.out.size ?_)
            intro a2 p2 w12 o2 k2 _
            have M2 := Lib.hid (show Cod w12 wz.heap.size (.slice a2 (D.length + 1) p2) (D ++ [⟨11, 0, 0⟩]) from o2)
            have K2 := Lib.hid (K1.out.trans (own_below M1.out k2 K1.out.size))
            have hDL2 : (D ++ [(⟨11, 0, 0⟩ : Ins)]).length ≤ 1001 := by rw [List.length_append]; show D.length + 1 ≤ 1001; omega
            have HL2 := Lib.hid (show (D ++ [(⟨11, 0, 0⟩ : Ins)]).length = D.length + 1 by rw [List.length_append]; rfl)
            obtain ⟨D2, hD2⟩ : ∃ D2, D ++ [(⟨11, 0, 0⟩ : Ins)] = D2 := ⟨_, rfl⟩
            rw [hD2] at M2 hDL2 HL2
            have HD2 := Lib.hid hD2
            rw [← HL2.out] at M2 ⊢
            clear o2 k2 hD2
            go_wp2_with (at_builtin; refine wpList_whole rfl _ _ rfl rfl (Cod.nil _ _) rfl M2.out (by simp; omega) (Nat.le_refl _) ?_)
            intro a3 p3 w13 o3 k3 _
            have M3 := Lib.hid (show Cod w13 w12.heap.size (.slice a3 D2.length p3) D2 from by simpa using o3)
            have K3 := Lib.hid (k3.below (B := w12.heap.size) (fun j hj => by simp [Value.ownBlock] at hj) (Nat.le_refl _))
            clear o3 k3
            go_wp2_with (at_builtin; refine wpList_ins rfl _ _ rfl rfl M3.out 1 0 0 rfl (by omega) K3.out.size ?_)
            intro a4 p4 w14 o4 k4 _
            have M4 := Lib.hid (show Cod w14 w12.heap.size (.slice a4 (D2.length + 1) p4) (D2 ++ [⟨1, 0, 0⟩]) from o4)
            have K4 := Lib.hid (K3.out.trans (own_below M3.out k4 K3.out.size))
            have M2b := Lib.hid (M2.out.later K4.out)
            have KA := (Below.refl w14.heap.size w14).alloc (Nat.le_refl _) (.cells #[.int .i64 5, .int .i64 0, .int .i64 0, .slice none 0 0] 40)
            have M2c := Lib.hid (M2b.out.later KA)
            have HKA := Lib.hid KA
            clear o4 k4 KA
            go_wp2_with (at_builtin; refine wpList_whole rfl _ _ rfl rfl (Cod.new _ 5 0 0) rfl M2c.out (by simp; omega) (by simp) ?_)
            intro a5 p5 w15 o5 k5 _
            have M5 := Lib.hid (show Cod w15 w14.heap.size (.slice a5 (1 + D2.length) p5) ([⟨5, 0, 0⟩] ++ D2) from o5)
            have K5 := Lib.hid (HKA.out.trans (own_below (Cod.new w14 5 0 0) k5 (by simp)))
            clear o5 k5
            have K45 := Lib.hid (K2.out.trans ((K4.out.trans (K5.out.mono K4.out.size)).mono K2.out.size))
            have G5 := Lib.hid (G0.out.trans (K45.out.mono G0.out.size))
            go_wp2_with fail
            refine (struct_cod (r := true) (M2b.out.later K5.out) (by omega) (by rw [← HD2.out]; exact wf_snoc HOPS.out (by decide)) (by rw [← HD2.out, List.map_append]; exact whole_yes HRUN.out)).mono ?_
            rintro e w16 ⟨rfl, c6⟩
            have K6 := Lib.hid c6
            clear c6
            go_wp2_with fail
            refine (struct_cod (r := false) ((E0.out.later K45.out).later K6.out) (by omega) HOPS.out (code_no HRUN.out)).mono ?_
            rintro e w17 ⟨rfl, c7⟩
            have K7 := Lib.hid (K6.out.trans (c7.mono K6.out.size))
            clear c7
            go_wp2_with fail
            refine (struct_cod (r := false) ((M4.out.later K5.out).later K7.out) (by rw [List.length_append]; show D2.length + 1 ≤ _; omega) (wf_snoc (by rw [← HD2.out]; exact wf_snoc HOPS.out (by decide)) (by decide)) (by rw [← HD2.out, List.map_append, List.map_append]; exact more_no HRUN.out)).mono ?_
            rintro e w18 ⟨rfl, c8⟩
            have K8 := Lib.hid (K7.out.trans (c8.mono K7.out.size))
            clear c8
            go_wp2_with fail
            refine (struct_cod (r := false) (M5.out.later K8.out) (by rw [List.length_append]; show 1 + D2.length ≤ _; omega) (wf_cons (by rw [← HD2.out]; exact wf_snoc HOPS.out (by decide)) (by decide)) (other_no _)).mono ?_
            rintro e w19 ⟨rfl, c9⟩
            have K9 := Lib.hid (G5.out.trans ((K8.out.trans (c9.mono K8.out.size)).mono G5.out.size))
            clear c9
            go_wp2_with fail
            go_ret
            exact ⟨rfl, K9.out⟩
end Go.Proofs.YthkdegmnnbepdaaGreatDoor.Mod
