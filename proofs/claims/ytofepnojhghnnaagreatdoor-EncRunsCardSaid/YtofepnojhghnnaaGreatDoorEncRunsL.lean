/-
  The law of runs: the walk. No condition beyond what each theorem names.
-/
import Derived.Test.YtofepnojhghnnaaGreatDoorEncRunsW
namespace Go.Proofs.YtofepnojhghnnaaGreatDoor.Enc
open Go.RowKit Go.Maps Go.Proofs.YtofepnojhghnnaaGreatDoor.Op Go.Proofs.YtofepnojhghnnaaGreatDoor.Mod Go.Proofs.YtofepnojhghnnaaGreatDoor.Leb Go.Proofs.YtofepnojhghnnaaGreatDoor.Bytes Go.Proofs.YtofepnojhghnnaaGreatDoor.Pg
set_option linter.unusedVariables false
theorem rep_snoc (n : Nat) (b : UInt8) : rep n b ++ bs [b] = rep (n + 1) b := by
  unfold rep
  rw [bs_app, List.replicate_succ']
theorem rep_size (n : Nat) (b : UInt8) : (rep n b).size = n := by unfold rep; rw [bs_size]; simp
set_option maxRecDepth 100000 in
set_option maxHeartbeats 8000000 in
theorem runs_law (a b c : Int) (ha : 0 ≤ a ∧ a ≤ 255) (hb : 0 ≤ b ∧ b ≤ 255) (hc : 0 ≤ c ∧ c ≤ 255) (w : World) (hE : MEnv w) :
    Calls Tryz.prog 5 #[.int .u8 a, .int .u8 b, .int .u8 c] w fun e w' => e = .returned (.bool true) ∧ Below w.heap.size w w' := by
  have HEX := Lib.hid (examples05 w hE)
  have HS := Lib.hid (fun (s : ByteArray) (hs : s.size ≤ 100000) (W : World) (hW : Below w.heap.size w W) => size_any s W (hE.later hW) hs)
  obtain ⟨n, hn, hn1⟩ : ∃ n : Nat, a.tmod 100 = (n : Int) ∧ n < 100 := ⟨(a % 100).toNat, by rw [Int.tmod_eq_emod_of_nonneg ha.1]; omega, by omega⟩
  obtain ⟨m, hm, hm1⟩ : ∃ m : Nat, b.tmod 100 = (m : Int) ∧ m < 100 := ⟨(b % 100).toNat, by rw [Int.tmod_eq_emod_of_nonneg hb.1]; omega, by omega⟩
  obtain ⟨k, hk, hk1⟩ : ∃ k : Nat, c.tmod 100 = (k : Int) ∧ k < 100 := ⟨(c % 100).toNat, by rw [Int.tmod_eq_emod_of_nonneg hc.1]; omega, by omega⟩
  have HN := Lib.hid hn1
  have HM := Lib.hid hm1
  have HK := Lib.hid hk1
  clear ha hb hc hE
  go_enter Tryz.func5, Tryz.ntmps5
  go_wp2_with fail
  refine HEX.out.mono ?_
  rintro e w1 ⟨rfl, c1⟩
  have C1 := Lib.hid c1
  clear c1
  go_wp2_with fail
  go_loopg [9, 10] (n + 1) (fun gk s1 s2 wr => ∃ j : Nat, j ≤ n + 1 ∧ n + 1 - j ≤ gk ∧ s1 = .string (rep j 127) ∧ s2 = .int .i64 (j : Int) ∧ w1 = wr)
  case atStart => exact ⟨0, by omega, by omega, rfl, rfl, rfl⟩
  case round =>
    obtain ⟨j, hj, hg, rfl, rfl, rfl⟩ := hrel
    by_cases hlt : j < n + 1
    · have h1 : (j : Int) < 1 + (n : Int) := by omega
      have hz : ¬ 9223372036854775807 < (rep j 127).size + 1 := by rw [rep_size]; omega
      go_wp2_with fail
      go_roundg (n + 1 - (j + 1))
      case measure => omega
      case rel => exact ⟨j + 1, by omega, by omega, congrArg Value.string (rep_snoc j 127), by go_num, rfl⟩
    · have h1 : ¬ (j : Int) < 1 + (n : Int) := by omega
      obtain rfl : j = n + 1 := by omega
      go_wp2_with fail
      go_loopg [11, 12] (m + 1) (fun gk s1 s2 wr => ∃ j : Nat, j ≤ m + 1 ∧ m + 1 - j ≤ gk ∧ s1 = .string (rep j 126) ∧ s2 = .int .i64 (j : Int) ∧ w1 = wr)
      case atStart => exact ⟨0, by omega, by omega, rfl, rfl, rfl⟩
      case round =>
        obtain ⟨j, hj, hg, rfl, rfl, rfl⟩ := hrel
        by_cases hlt : j < m + 1
        · have h1 : (j : Int) < 1 + (m : Int) := by omega
          have hz : ¬ 9223372036854775807 < (rep j 126).size + 1 := by rw [rep_size]; omega
          go_wp2_with fail
          go_roundg (m + 1 - (j + 1))
          case measure => omega
          case rel => exact ⟨j + 1, by omega, by omega, congrArg Value.string (rep_snoc j 126), by go_num, rfl⟩
        · have h1 : ¬ (j : Int) < 1 + (m : Int) := by omega
          obtain rfl : j = m + 1 := by omega
          go_wp2_with fail
          go_loopg [13, 14] (k + 1) (fun gk s1 s2 wr => ∃ j : Nat, j ≤ k + 1 ∧ k + 1 - j ≤ gk ∧ s1 = .string (rep j 127) ∧ s2 = .int .i64 (j : Int) ∧ w1 = wr)
          case atStart => exact ⟨0, by omega, by omega, rfl, rfl, rfl⟩
          case round =>
            obtain ⟨j, hj, hg, rfl, rfl, rfl⟩ := hrel
            by_cases hlt : j < k + 1
            · have h1 : (j : Int) < 1 + (k : Int) := by omega
              have hz : ¬ 9223372036854775807 < (rep j 127).size + 1 := by rw [rep_size]; omega
              go_wp2_with fail
              go_roundg (k + 1 - (j + 1))
              case measure => omega
              case rel => exact ⟨j + 1, by omega, by omega, congrArg Value.string (rep_snoc j 127), by go_num, rfl⟩
            · have h1 : ¬ (j : Int) < 1 + (k : Int) := by omega
              obtain rfl : j = k + 1 := by omega
              go_wp2_with fail
              have K0 := Lib.hid (fun (W : World) (hW : Below w.heap.size w W) => (show Calls Tryz.prog 13 #[.string ⟨#[]⟩] W fun e w' => e = .returned (.int .i64 24) ∧ Below W.heap.size W w' by have h := HS.out ⟨#[]⟩ (by decide) W hW; rw [size0] at h; exact h))
              have K1 := Lib.hid (fun (W : World) (hW : Below w.heap.size w W) => (show Calls Tryz.prog 13 #[.string (rep (n + 1) 127)] W fun e w' => e = .returned (.int .i64 26) ∧ Below W.heap.size W w' by have h := HS.out (rep (n + 1) 127) (by rw [rep_size]; omega) W hW; rw [size1 HN.out] at h; exact h))
              have K2 := Lib.hid (fun (W : World) (hW : Below w.heap.size w W) => (show Calls Tryz.prog 13 #[.string (rep (n + 1) 127 ++ rep (m + 1) 126)] W fun e w' => e = .returned (.int .i64 28) ∧ Below W.heap.size W w' by have h := HS.out (rep (n + 1) 127 ++ rep (m + 1) 126) (by rw [ByteArray.size_append, rep_size, rep_size]; omega) W hW; rw [size2 HN.out HM.out] at h; exact h))
              have K3 := Lib.hid (fun (W : World) (hW : Below w.heap.size w W) => (show Calls Tryz.prog 13 #[.string (rep (n + 1) 127 ++ rep (m + 1) 126 ++ rep (k + 1) 127)] W fun e w' => e = .returned (.int .i64 30) ∧ Below W.heap.size W w' by have h := HS.out (rep (n + 1) 127 ++ rep (m + 1) 126 ++ rep (k + 1) 127) (by rw [ByteArray.size_append, ByteArray.size_append, rep_size, rep_size, rep_size]; omega) W hW; rw [size3 HN.out HM.out HK.out] at h; exact h))
              have K4 := Lib.hid (fun (W : World) (hW : Below w.heap.size w W) => (show Calls Tryz.prog 13 #[.string ⟨#[125]⟩] W fun e w' => e = .returned (.int .i64 0) ∧ Below W.heap.size W w' by have h := HS.out ⟨#[125]⟩ (by decide) W hW; rw [sizeD] at h; exact h))
              have hx : (rep (n + 1) 127).size = n + 1 := rep_size _ _
              have hy : (rep (m + 1) 126).size = m + 1 := rep_size _ _
              have hz : (rep (k + 1) 127).size = k + 1 := rep_size _ _
              obtain ⟨X, hX⟩ : ∃ X, rep (n + 1) 127 = X := ⟨_, rfl⟩
              obtain ⟨Y, hY⟩ : ∃ Y, rep (m + 1) 126 = Y := ⟨_, rfl⟩
              obtain ⟨Z, hZ⟩ : ∃ Z, rep (k + 1) 127 = Z := ⟨_, rfl⟩
              rw [hX] at K1 K2 K3 hx
              rw [hY] at K2 K3 hy
              rw [hZ] at K3 hz
              have hz2 : ¬ 9223372036854775807 < X.size + Y.size := by omega
              have hz3 : ¬ 9223372036854775807 < X.size + Y.size + Z.size := by omega
              rw [hX, hY, hZ]
              clear hX hY hZ hx hy hz
              refine (K0.out _ C1.out).mono ?_
              rintro e w2 ⟨rfl, c2⟩
              have C2 := Lib.hid (C1.out.trans (c2.mono C1.out.size))
              clear c2
              go_wp2_with fail
              refine (K1.out _ C2.out).mono ?_
              rintro e w3 ⟨rfl, c3⟩
              have C3 := Lib.hid (C2.out.trans (c3.mono C2.out.size))
              clear c3
              go_wp2_with fail
              refine (K2.out _ C3.out).mono ?_
              rintro e w4 ⟨rfl, c4⟩
              have C4 := Lib.hid (C3.out.trans (c4.mono C3.out.size))
              clear c4
              go_wp2_with fail
              refine (K3.out _ C4.out).mono ?_
              rintro e w5 ⟨rfl, c5⟩
              have C5 := Lib.hid (C4.out.trans (c5.mono C4.out.size))
              clear c5
              go_wp2_with fail
              refine (K4.out _ C5.out).mono ?_
              rintro e w6 ⟨rfl, c6⟩
              have C6 := Lib.hid (C5.out.trans (c6.mono C5.out.size))
              clear c6
              go_wp2_with fail
              go_ret
              exact ⟨rfl, C6.out⟩
end Go.Proofs.YtofepnojhghnnaaGreatDoor.Enc
