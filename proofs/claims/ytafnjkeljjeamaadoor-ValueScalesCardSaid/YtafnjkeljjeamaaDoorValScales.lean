/-
  The law of scales: the walk. No condition beyond what each theorem names.
-/
import Derived.Test.YtafnjkeljjeamaaDoorValLawsPl
import Derived.Test.YtafnjkeljjeamaaDoorValWk2
import Derived.Test.YtafnjkeljjeamaaDoorValN
namespace Go.Proofs.YtafnjkeljjeamaaDoor.Val
open Go.RowKit Go.Maps Go.Lib
set_option linter.unusedVariables false
set_option linter.unusedSimpArgs false
set_option maxRecDepth 100000 in
set_option maxHeartbeats 2000000 in
theorem number_x (X : Int) (h0 : 0 ≤ X) (h9 : X ≤ 9) (w : World) : Calls Tryd.prog 19 #[.int .u8 X] w (fun e w' => e = .returned (.agg #[.int .i64 (typed X).kind, .int .i64 (typed X).scale]) ∧ Below w.heap.size w w') := by
  obtain ⟨k, rfl⟩ := Int.eq_ofNat_of_zero_le h0
  have hk : k < 10 := by omega
  have h := number_any (UInt8.ofNat k) w
  have e : (UInt8.ofNat k).toNat = k := by
    show k % 256 = k
    omega
  rw [e, Nat.mod_eq_of_lt hk] at h
  exact h
def ScK (n x y v e1 : Int) : Prop := ∀ W, Calls Tryd.prog 13 #[.int .i64 n, .int .i64 x, .int .i64 y] W fun e w' => e = .returned (.tuple #[.int .i64 v, .int .i64 e1]) ∧ Below W.heap.size W w'
def NuK (x k s : Int) : Prop := ∀ W, Calls Tryd.prog 19 #[.int .u8 x] W fun e w' => e = .returned (.agg #[.int .i64 k, .int .i64 s]) ∧ Below W.heap.size W w'
structure ScE (a b c : UInt8) (X B Y C Z : Int) : Prop where
  hX : (a.toNat : Int) % 10 = X
  hB : wrap64 (b.toNat : Int) = B
  hC : wrap64 (c.toNat : Int) = C
  hY : wrap64 (X + B.tmod (10 - X)) = Y
  hZ : wrap64 (Y + C.tmod (10 - Y)) = Z
  x0 : 0 ≤ X
  xy : X ≤ Y
  yz : Y ≤ Z
  z9 : Z ≤ 9
theorem wrap_small {x : Int} (h0 : 0 ≤ x) (h1 : x < 1000) : wrap64 x = x := by
  unfold wrap64
  omega
theorem step_in {x b : Int} (h0 : 0 ≤ x) (h9 : x ≤ 9) (hb : 0 ≤ b) : x ≤ wrap64 (x + b.tmod (10 - x)) ∧ wrap64 (x + b.tmod (10 - x)) ≤ 9 := by
  have h1 := Int.tmod_nonneg (10 - x) hb
  have h2 := Int.tmod_lt_of_pos b (show 0 < 10 - x by omega)
  rw [wrap_small (by omega) (by omega)]
  omega
theorem sce_of (a b c : UInt8) : ∃ X B Y C Z, ScE a b c X B Y C Z := by
  have ha := a.toNat_lt
  have hb := b.toNat_lt
  have hc := c.toNat_lt
  have eb : wrap64 (b.toNat : Int) = (b.toNat : Int) := wrap_small (by omega) (by omega)
  have ec : wrap64 (c.toNat : Int) = (c.toNat : Int) := wrap_small (by omega) (by omega)
  have s1 := step_in (x := (a.toNat : Int) % 10) (b := (b.toNat : Int)) (by omega) (by omega) (by omega)
  have s2 := step_in (x := wrap64 ((a.toNat : Int) % 10 + (b.toNat : Int).tmod (10 - (a.toNat : Int) % 10))) (b := (c.toNat : Int)) (by omega) (by omega) (by omega)
  exact ⟨_, _, _, _, _, rfl, eb, ec, rfl, rfl, by omega, s1.1, s2.1, s2.2⟩
set_option maxRecDepth 100000 in
set_option maxHeartbeats 2000000 in
theorem scalesW_no (n : Int) (a b c : UInt8) (X B Y C Z q f r g : Int) (hS : ScE a b c X B Y C Z) (s1 : ScK n X Z 0 11) (s2 : ScK n X Y q f) (s3 : ScK q Y Z r g) (hfg : f = 11 ∨ (f = 0 ∧ g = 11)) (w : World) (hE : VEnv w) : Calls Tryd.prog 8 #[.int .i64 n, .int .u8 (a.toNat : Int), .int .u8 (b.toNat : Int), .int .u8 (c.toNat : Int)] w (BoolS w true) := by
  have HE := Lib.hid hE
  have S1 := Lib.hid s1
  have S2 := Lib.hid s2
  have S3 := Lib.hid s3
  obtain ⟨hX, hB, hC, hY, hZ, x0, xy, yz, z9⟩ := hS
  have y9 : Y ≤ 9 := by omega
  have x9 : X ≤ 9 := by omega
  have y0 : 0 ≤ Y := by omega
  have hD : wrap64 (10 - X) = 10 - X := wrap_small (by omega) (by omega)
  have hD2 : wrap64 (10 - Y) = 10 - Y := wrap_small (by omega) (by omega)
  have hn1 : ¬ (10 - X = 0) := by omega
  have hn2 : ¬ (10 - Y = 0) := by omega
  clear hE s1 s2 s3
  rcases hfg with rfl | ⟨rfl, rfl⟩
  all_goals
    go_enter Tryd.func8, Tryd.ntmps8
    go_wp2_with fail
    refine (examples10 _ HE.out).mono ?_
    rintro e w1 ⟨rfl, c1⟩
    have C1 := Lib.hid c1
    clear c1
    go_wp2_with fail
    refine (S1.out _).mono ?_
    rintro e w2 ⟨rfl, c2⟩
    have C2 := Lib.hid (bj C1.out c2)
    clear c2
    go_wp2_with fail
    refine (S2.out _).mono ?_
    rintro e w3 ⟨rfl, c3⟩
    have C3 := Lib.hid (bj C2.out c3)
    clear c3
    go_wp2_with fail
    refine (S3.out _).mono ?_
    rintro e w4 ⟨rfl, c4⟩
    have C4 := Lib.hid (bj C3.out c4)
    clear c4
    go_wp2_with fail
    go_ret
    first | exact ⟨by simp, C4.out⟩ | exact ⟨by simp, C4.out.drew⟩
set_option maxRecDepth 100000 in
set_option maxHeartbeats 2000000 in
theorem scalesW_yes (n : Int) (a b c : UInt8) (X B Y C Z p q kx sx kz sz : Int) (hS : ScE a b c X B Y C Z) (s1 : ScK n X Z p 0) (s2 : ScK n X Y q 0) (s3 : ScK q Y Z p 0) (n1 : NuK X kx sx) (n2 : NuK Z kz sz)
    (k1 : CK (.agg #[.bool false, .int .i64 n, .string ⟨#[]⟩]) (.agg #[.bool false, .int .i64 p, .string ⟨#[]⟩]) (.agg #[.int .i64 kx, .int .i64 sx]) (.agg #[.int .i64 kz, .int .i64 sz]) 0) (w : World) (hE : VEnv w) : Calls Tryd.prog 8 #[.int .i64 n, .int .u8 (a.toNat : Int), .int .u8 (b.toNat : Int), .int .u8 (c.toNat : Int)] w (BoolS w true) := by
  have HE := Lib.hid hE
  have S1 := Lib.hid s1
  have S2 := Lib.hid s2
  have S3 := Lib.hid s3
  have N1 := Lib.hid n1
  have N2 := Lib.hid n2
  have K1 := Lib.hid k1
  obtain ⟨hX, hB, hC, hY, hZ, x0, xy, yz, z9⟩ := hS
  have y9 : Y ≤ 9 := by omega
  have x9 : X ≤ 9 := by omega
  have y0 : 0 ≤ Y := by omega
  have z0 : 0 ≤ Z := by omega
  have hD : wrap64 (10 - X) = 10 - X := wrap_small (by omega) (by omega)
  have hD2 : wrap64 (10 - Y) = 10 - Y := wrap_small (by omega) (by omega)
  have hn1 : ¬ (10 - X = 0) := by omega
  have hn2 : ¬ (10 - Y = 0) := by omega
  clear hE s1 s2 s3 n1 n2 k1
  go_enter Tryd.func8, Tryd.ntmps8
  go_wp2_with fail
  refine (examples10 _ HE.out).mono ?_
  rintro e w1 ⟨rfl, c1⟩
  have C1 := Lib.hid c1
  clear c1
  go_wp2_with fail
  refine (S1.out _).mono ?_
  rintro e w2 ⟨rfl, c2⟩
  have C2 := Lib.hid (bj C1.out c2)
  clear c2
  go_wp2_with fail
  refine (S2.out _).mono ?_
  rintro e w3 ⟨rfl, c3⟩
  have C3 := Lib.hid (bj C2.out c3)
  clear c3
  go_wp2_with fail
  refine (S3.out _).mono ?_
  rintro e w4 ⟨rfl, c4⟩
  have C4 := Lib.hid (bj C3.out c4)
  clear c4
  go_wp2_with fail
  refine (N1.out _).mono ?_
  rintro e w5 ⟨rfl, c5⟩
  have C5 := Lib.hid (bj C4.out c5)
  clear c5
  go_wp2_with fail
  refine (N2.out _).mono ?_
  rintro e w6 ⟨rfl, c6⟩
  have C6 := Lib.hid (bj C5.out c6)
  clear c6
  go_wp2_with fail
  refine (K1.out _).mono ?_
  rintro e w7 ⟨rfl, c7⟩
  have C7 := Lib.hid (bj C6.out c7)
  clear c7
  go_wp2_with fail
  go_ret
  first | exact ⟨by simp, C7.out⟩ | exact ⟨by simp, C7.out.drew⟩
theorem scales_walk (n : Int) (a b c : UInt8) (hn : I64 n) (w : World) (hE : VEnv w) : Calls Tryd.prog 8 #[.int .i64 n, .int .u8 (a.toNat : Int), .int .u8 (b.toNat : Int), .int .u8 (c.toNat : Int)] w (BoolS w true) := by
  obtain ⟨X, B, Y, C, Z, hS⟩ := sce_of a b c
  have x0 := hS.x0
  have xy := hS.xy
  have yz := hS.yz
  have z9 := hS.z9
  have key : ∀ m x y v e, I64 m → scaleP m x y = (v, e) → ScK m x y v e := fun m x y v e hm h W => scale_any m x y hm W v e h
  cases hf : fits (n * ten (Z - X).toNat)
  · obtain ⟨⟨q, f⟩, h2⟩ : ∃ o, scaleP n X Y = o := ⟨_, rfl⟩
    have hq : I64 q := by
      rw [scale_in x0 xy (by omega)] at h2
      split at h2
      · rename_i h; obtain ⟨rfl, _⟩ := Prod.mk.injEq _ _ _ _ ▸ h2; exact fits_iff.1 h
      · obtain ⟨rfl, _⟩ := Prod.mk.injEq _ _ _ _ ▸ h2; unfold I64; decide
    obtain ⟨⟨r, g⟩, h3⟩ : ∃ o, scaleP q Y Z = o := ⟨_, rfl⟩
    have h4 := scales_no x0 xy yz z9 hf h2 h3
    refine scalesW_no n a b c X B Y C Z q f r g hS (key _ _ _ _ _ hn ?_) (key _ _ _ _ _ hn h2) (key _ _ _ _ _ hq h3) ?_ w hE
    · rw [scale_in x0 (by omega) z9, hf]; rfl
    · omega
  · obtain ⟨h1, h2, h3⟩ := scales_yes x0 xy yz z9 hf
    have hp : I64 (n * ten (Z - X).toNat) := fits_iff.1 hf
    have hq : I64 (n * ten (Y - X).toNat) := fits_iff.1 (fits_moreN (by omega) hf)
    exact scalesW_yes n a b c X B Y C Z _ _ _ _ _ _ hS (key _ _ _ _ _ hn (by rw [scale_in x0 (by omega) z9, if_pos hf])) (key _ _ _ _ _ hn h1) (key _ _ _ _ _ hq h2) (fun W => number_x X x0 (by omega) W) (fun W => number_x Z (by omega) z9 W)
      (fun W => compare_any (numVa n) (numVa (n * ten (Z - X).toNat)) (typed X) (typed Z) hn hp W _ h3) w hE
end Go.Proofs.YtafnjkeljjeamaaDoor.Val
