/-
  Scale of chapter 10, the program's and the reference's. No condition beyond what each theorem names.
-/
import Derived.Test.YtekpdcofjhdiiaaGreatDoorValB
namespace Go.Proofs.YtekpdcofjhdiiaaGreatDoor.Val
open Go.RowKit
set_option linter.unusedVariables false
set_option linter.unusedSimpArgs false
def PairI (w : World) (v e1 : Int) (e : Ending) (w' : World) : Prop := e = .returned (.tuple #[.int .i64 v, .int .i64 e1]) ∧ Below w.heap.size w w'
theorem sgn_scale (n : Int) (k : Nat) : sgn (decide (n < 0) != decide (ten k < 0)) (n.natAbs * (ten k).natAbs) = n * ten k := by
  have h := sgn_mul n (ten k) (ten_pos k)
  have h2 : decide (ten k < 0) = false := decide_eq_false (by have := ten_pos k; omega)
  rw [h2, show (decide (n < 0) != false) = decide (n < 0) by cases decide (n < 0) <;> rfl]
  exact h
theorem ten_i64 (k : Nat) (hk : k ≤ 9) : I64 (ten k) := by
  have := ten_pos k
  have := ten_le k hk
  unfold I64
  omega
theorem scale_bad {n fr tt : Int} (h : fr < 0 ∨ tt < fr ∨ 9 < tt) : scaleP n fr tt = (0, 1) := if_pos h
theorem scale_good {n fr : Int} {k : Nat} (h0 : 0 ≤ fr) (h9 : fr + k ≤ 9) : scaleP n fr (fr + k) = if fits (n * ten k) then (n * ten k, 0) else (0, 11) := by
  unfold scaleP
  rw [if_neg (by omega), show (fr + k - fr).toNat = k by omega]
theorem i64_abs {n : Int} (h : I64 n) : n.natAbs < 18446744073709551616 := by unfold I64 at h; omega
set_option maxRecDepth 100000 in
set_option maxHeartbeats 1000000 in
theorem scale_any (n fr tt : Int) (hn : I64 n) (w : World) (v e1 : Int) (h : scaleP n fr tt = (v, e1)) : Calls Tryz.prog 19 #[.int .i64 n, .int .i64 fr, .int .i64 tt] w (PairI w v e1) := by
  by_cases hb : fr < 0 ∨ tt < fr ∨ 9 < tt
  · rw [scale_bad hb] at h
    cases h
    by_cases c1 : fr < 0
    · have d1 : decide (fr < 0) = true := decide_eq_true c1
      clear hb
      go_enter Tryz.func19, Tryz.ntmps19
      go_wp2_with fail
      go_ret2
      exact ⟨rfl, Below.refl _ _⟩
    · have d1 : decide (fr < 0) = false := decide_eq_false c1
      by_cases c2 : tt < fr
      · have d2 : decide (tt < fr) = true := decide_eq_true c2
        clear hb
        go_enter Tryz.func19, Tryz.ntmps19
        go_wp2_with fail
        go_ret2
        exact ⟨rfl, Below.refl _ _⟩
      · have d2 : decide (tt < fr) = false := decide_eq_false c2
        have d3 : decide (9 < tt) = true := decide_eq_true (by omega)
        clear hb
        go_enter Tryz.func19, Tryz.ntmps19
        go_wp2_with fail
        go_ret2
        exact ⟨rfl, Below.refl _ _⟩
  · obtain ⟨k, rfl⟩ : ∃ k : Nat, tt = fr + k := ⟨(tt - fr).toNat, by omega⟩
    have h0 : 0 ≤ fr := by omega
    have h9 : fr + k ≤ 9 := by omega
    have hk : k ≤ 9 := by omega
    rw [scale_good h0 h9] at h
    have d1 : decide (fr < 0) = false := decide_eq_false (by omega)
    have d2 : decide (fr + k < fr) = false := decide_eq_false (by omega)
    have d3 : decide (9 < fr + k) = false := decide_eq_false (by omega)
    have e2 : fr + (k : Int) - fr = (k : Int) := by omega
    have HH := Lib.hid h
    have HN := Lib.hid hn
    have HK := Lib.hid (ten_i64 k hk)
    have HS := Lib.hid (sgn_scale n k)
    have HE := Lib.hid e2
    clear hb h hn e2
    go_enter Tryz.func19, Tryz.ntmps19
    go_wp2_with fail
    refine (widen_any n HN.out _).mono ?_
    rintro e w1 ⟨rfl, c1⟩
    have C1 := Lib.hid c1
    clear c1
    have e3 : fr + (k : Int) - fr = (k : Int) := HE.out
    go_wp2_with fail
    refine (ten_any k hk _).mono ?_
    rintro e w2 ⟨rfl, rfl⟩
    clear e3
    obtain ⟨T, hT⟩ : ∃ T, ten k = T := ⟨_, rfl⟩
    obtain ⟨D, hD⟩ : ∃ D, decide (n < 0) = D := ⟨_, rfl⟩
    obtain ⟨N, hN⟩ : ∃ N, n.natAbs = N := ⟨_, rfl⟩
    rw [hT] at HH HK HS ⊢
    rw [hD, hN] at HS
    rw [hD, hN]
    have hNl : N < 18446744073709551616 := hN ▸ i64_abs HN.out
    have HNL := Lib.hid hNl
    clear hT hD hN hNl
    go_wp2_with fail
    refine (times_any D 0 N HNL.out T HK.out _).mono ?_
    rintro e w3 ⟨hi, lo, hp, hl, rfl, c3⟩
    rw [← hp] at HS
    have HL := Lib.hid hl
    have C3 := Lib.hid (C1.out.trans (c3.mono C1.out.size))
    obtain ⟨M, hM⟩ : ∃ M, (D != decide (T < 0)) = M := ⟨_, rfl⟩
    rw [hM] at HS ⊢
    clear hp hl c3 hM
    go_wp2_with fail
    refine (narrow_any M hi lo HL.out _).mono ?_
    rintro e w4 ⟨u, ok, rfl, hok, hu, c4⟩
    rw [HS.out] at hok hu
    have C4 := Lib.hid (C3.out.trans (c4.mono C3.out.size))
    have HU := Lib.hid hu
    have HOK := Lib.hid hok
    clear hok hu c4
    cases ok
    · go_wp2_with fail
      go_ret2
      have h9 := HH.out
      rw [← HOK.out] at h9
      cases h9
      exact ⟨rfl, C4.out⟩
    · have hu9 := HU.out rfl
      have h9 := HH.out
      rw [← HOK.out, if_pos rfl] at h9
      simp only [Prod.mk.injEq] at h9
      obtain ⟨h9, rfl⟩ := h9
      have hv : u = v := hu9.trans h9
      subst hv
      clear hu9 h9
      go_wp2_with fail
      go_ret2
      exact ⟨rfl, C4.out⟩
/-! the reference's -/
theorem tdiv_i64 {p b : Int} (hp : I64 p) (h : ¬ (p = -9223372036854775808 ∧ b = -1)) : wrap64 (p.tdiv b) = p.tdiv b := by
  apply wrap_fits
  rw [fits_iff]
  have h1 : (p.tdiv b).natAbs ≤ p.natAbs := by rw [Int.natAbs_tdiv]; exact Nat.div_le_self _ _
  unfold I64 at *
  by_cases hb : b = -1
  · subst hb
    rw [Int.tdiv_neg, Int.tdiv_one]
    omega
  · by_cases h2 : p = -9223372036854775808
    · subst h2
      by_cases hb0 : b = 0
      · subst hb0; simp
      · by_cases hb1 : b = 1
        · subst hb1; simp
        · have h3 : (Int.tdiv (-9223372036854775808) b).natAbs ≤ 4611686018427387904 := by
            rw [Int.natAbs_tdiv]
            have : 2 ≤ b.natAbs := by omega
            exact Nat.div_le_of_le_mul (by rw [show (-9223372036854775808 : Int).natAbs = 9223372036854775808 by decide]; omega)
          omega
    · omega
def ProdS (w : World) (z : Int) (e : Ending) (w' : World) : Prop := e = .returned (.tuple #[.int .i64 (if fits z then z else 0), .bool (fits z)]) ∧ w = w'
theorem prod_yes {w : World} {z : Int} (h : fits z = true) : ProdS w z (.returned (.tuple #[.int .i64 z, .bool true])) w := ⟨by rw [h]; rfl, rfl⟩
theorem prod_no {w : World} {z : Int} (h : fits z = false) : ProdS w z (.returned (.tuple #[.int .i64 0, .bool false])) w := ⟨by rw [h]; rfl, rfl⟩
theorem prod_yes2 {w : World} {z v : Int} (hv : v = z) (h : fits z = true) : ProdS w z (.returned (.tuple #[.int .i64 v, .bool true])) w := by
  subst hv
  exact prod_yes h
theorem fits0 : fits 0 = true := by decide
theorem fits_top : fits 9223372036854775808 = false := by decide
set_option maxRecDepth 100000 in
set_option maxHeartbeats 1000000 in
theorem product_any (a b : Int) (ha : I64 a) (hb : I64 b) (w : World) : Calls Tryz.prog 52 #[.int .i64 a, .int .i64 b] w (ProdS w (a * b)) := by
  by_cases h0 : a = 0
  · subst h0
    rw [Int.zero_mul]
    go_enter Tryz.func52, Tryz.ntmps52
    go_wp2_with fail
    go_ret2
    exact prod_yes fits0
  · have e0 : (a == 0) = false := beq_eq_false_iff_ne.2 h0
    by_cases h1 : b = 0
    · subst h1
      rw [Int.mul_zero]
      clear h0
      go_enter Tryz.func52, Tryz.ntmps52
      go_wp2_with fail
      go_ret2
      exact prod_yes fits0
    · have e1 : (b == 0) = false := beq_eq_false_iff_ne.2 h1
      by_cases hs : a = -1 ∧ b = -9223372036854775808
      · obtain ⟨rfl, rfl⟩ := hs
        clear e0 e1 h0 h1
        go_enter Tryz.func52, Tryz.ntmps52
        go_wp2_with fail
        go_ret2
        exact prod_no fits_top
      · by_cases hs2 : b = -1 ∧ a = -9223372036854775808
        · obtain ⟨rfl, rfl⟩ := hs2
          clear e0 e1 h0 h1 hs
          go_enter Tryz.func52, Tryz.ntmps52
          go_wp2_with fail
          go_ret2
          exact prod_no fits_top
        · by_cases hb1 : b = -1
          · subst hb1
            have g1 : -9223372036854775807 ≤ a := by unfold I64 at ha; omega
            have g2 : a ≤ 9223372036854775807 := ha.2
            have e9 : (a == -9223372036854775808) = false := beq_eq_false_iff_ne.2 (by omega)
            have hf : fits (-a) = true := fits_iff.2 (by unfold I64; omega)
            have HF := Lib.hid hf
            have b1 : (a != a) = false := by simp
            rw [show a * -1 = -a by rw [Int.mul_neg, Int.mul_one]]
            clear hs hs2 hf ha hb h0 h1 e1
            cases ea : (a == -1)
            all_goals
              go_enter Tryz.func52, Tryz.ntmps52
              go_wp2_with fail
              go_ret2
              exact prod_yes HF.out
          · have eb : (b == -1) = false := beq_eq_false_iff_ne.2 hb1
            by_cases ha1 : a = -1
            · subst ha1
              have g1 : -9223372036854775807 ≤ b := by unfold I64 at hb; omega
              have g2 : b ≤ 9223372036854775807 := hb.2
              have e9 : (b == -9223372036854775808) = false := beq_eq_false_iff_ne.2 (by omega)
              have hf : fits (-b) = true := fits_iff.2 (by unfold I64; omega)
              have HF := Lib.hid hf
              have hq : (-b).tdiv b = -1 := by rw [Int.neg_tdiv, Int.tdiv_self h1]
              have hq2 : -(b.tdiv b) = -1 := by rw [Int.tdiv_self h1]
              rw [show -1 * b = -b by rw [Int.neg_mul, Int.one_mul]]
              clear hs hs2 hf ha hb h0 hb1 e0
              go_enter Tryz.func52, Tryz.ntmps52
              go_wp2_with fail
              go_ret2
              exact prod_yes HF.out
            · have ea : (a == -1) = false := beq_eq_false_iff_ne.2 ha1
              have hl := prod_look ha hb h0 h1 hs hs2
              have hr := tdiv_i64 (p := wrap64 (a * b)) (b := b) (wrap_range _) (fun h => hb1 h.2)
              have hz := fun h => wrap_fits (x := a * b) h
              obtain ⟨Z, hZ⟩ : ∃ Z, a * b = Z := ⟨_, rfl⟩
              rw [hZ] at hl hr hz ⊢
              obtain ⟨P, hP⟩ : ∃ P, wrap64 Z = P := ⟨_, rfl⟩
              rw [hP] at hl hr hz
              obtain ⟨Q, hQ⟩ : ∃ Q, P.tdiv b = Q := ⟨_, rfl⟩
              rw [hQ] at hl hr
              clear hs hs2 h0 hb1 ha1 ha hb
              cases hf : fits Z
              · rw [hf] at hl
                have HF := Lib.hid hf
                have hl2 : (Q != a) = true := hl
                clear hz hf hl
                go_enter Tryz.func52, Tryz.ntmps52
                go_wp2_with fail
                go_ret2
                exact prod_no HF.out
              · rw [hf] at hl
                have HF := Lib.hid hf
                have hl2 : (Q != a) = false := hl
                have HZ := Lib.hid (hz hf)
                clear hz hf hl
                go_enter Tryz.func52, Tryz.ntmps52
                go_wp2_with fail
                go_ret2
                exact prod_yes2 (hP.trans HZ.out) HF.out
theorem ten_one : ten 1 = 10 := rfl
theorem mul_step (n : Int) (j : Nat) : n * ten j * 10 = n * ten (j + 1) := by rw [ten_succ, Int.mul_assoc]
theorem fits_more {n : Int} {j k : Nat} (hjk : j ≤ k) (h : fits (n * ten k) = true) : fits (n * ten j) = true := by
  induction k with
  | zero =>
    obtain rfl : j = 0 := by omega
    exact h
  | succ k ih =>
    by_cases hj : j = k + 1
    · subst hj; exact h
    · exact ih (by omega) (fits_less n k h)
set_option maxRecDepth 100000 in
set_option maxHeartbeats 1000000 in
theorem rscale_any (n fr tt : Int) (hn : I64 n) (w : World) (v e1 : Int) (h : scaleP n fr tt = (v, e1)) : Calls Tryz.prog 25 #[.int .i64 n, .int .i64 fr, .int .i64 tt] w fun e w' => e = .returned (.tuple #[.int .i64 v, .int .i64 e1]) ∧ w = w' := by
  by_cases hb : fr < 0 ∨ tt < fr ∨ 9 < tt
  · rw [scale_bad hb] at h
    cases h
    by_cases c1 : fr < 0
    · have d1 : decide (fr < 0) = true := decide_eq_true c1
      clear hb
      go_enter Tryz.func25, Tryz.ntmps25
      go_wp2_with fail
      go_ret2
      exact ⟨rfl, rfl⟩
    · have d1 : decide (fr < 0) = false := decide_eq_false c1
      by_cases c0 : 9 < fr
      · have d0 : decide (9 < fr) = true := decide_eq_true c0
        clear hb
        go_enter Tryz.func25, Tryz.ntmps25
        go_wp2_with fail
        go_ret2
        exact ⟨rfl, rfl⟩
      · have d0 : decide (9 < fr) = false := decide_eq_false c0
        by_cases c2 : tt < fr
        · have d2 : decide (tt < fr) = true := decide_eq_true c2
          clear hb
          go_enter Tryz.func25, Tryz.ntmps25
          go_wp2_with fail
          go_ret2
          exact ⟨rfl, rfl⟩
        · have d2 : decide (tt < fr) = false := decide_eq_false c2
          have d3 : decide (9 < tt) = true := decide_eq_true (by omega)
          clear hb
          go_enter Tryz.func25, Tryz.ntmps25
          go_wp2_with fail
          go_ret2
          exact ⟨rfl, rfl⟩
  · obtain ⟨k, rfl⟩ : ∃ k : Nat, tt = fr + k := ⟨(tt - fr).toNat, by omega⟩
    have h0 : 0 ≤ fr := by omega
    have h9 : fr + k ≤ 9 := by omega
    have hk : k ≤ 9 := by omega
    rw [scale_good h0 h9] at h
    have d1 : decide (fr < 0) = false := decide_eq_false (by omega)
    have d0 : decide (9 < fr) = false := decide_eq_false (by omega)
    have d2 : decide (fr + k < fr) = false := decide_eq_false (by omega)
    have d3 : decide (9 < fr + k) = false := decide_eq_false (by omega)
    have HH := Lib.hid h
    have HN := Lib.hid hn
    clear hb h hn
    go_enter Tryz.func25, Tryz.ntmps25
    go_wp2_with fail
    go_loop [0, 8] (fun p i => ∃ j : Nat, j ≤ k ∧ i = .int .i64 (fr + j) ∧ p = .int .i64 (n * ten j) ∧ fits (n * ten j) = true) (fun _ i => (fr + k - intOf i).toNat)
    case atStart => exact ⟨0, Nat.zero_le _, by simp, by rw [show ten 0 = 1 from rfl, Int.mul_one], by rw [show ten 0 = 1 from rfl, Int.mul_one]; exact fits_iff.2 HN.out⟩
    case round =>
      obtain ⟨j, hj, rfl, rfl, hf⟩ := hrel
      have HI := Lib.hid (fits_iff.1 hf)
      have HM := Lib.hid (mul_step n j)
      have HF := Lib.hid hf
      obtain ⟨X, hX⟩ : ∃ X, n * ten j = X := ⟨_, rfl⟩
      have HX := Lib.hid hX
      rw [hX] at HI HM ⊢
      clear hf hX
      by_cases hlt : j < k
      · have hd : decide (fr + (j : Int) < fr + k) = true := decide_eq_true (by omega)
        go_wp2_with fail
        refine (product_any X 10 HI.out (by unfold I64; decide) _).mono ?_
        rintro e w2 ⟨rfl, rfl⟩
        rw [HM.out]
        cases hf2 : fits (n * ten (j + 1))
        · have HF2 := Lib.hid hf2
          clear hf2
          go_wp2_with fail
          go_ret2
          have h8 := HH.out
          have hk2 : fits (n * ten k) = false := by
            cases h7 : fits (n * ten k) with
            | false => rfl
            | true => have h6 := fits_more (j := j + 1) (by omega) h7; rw [HF2.out] at h6; cases h6
          rw [hk2] at h8
          cases h8
          exact ⟨rfl, rfl⟩
        · have HF2 := Lib.hid hf2
          clear hf2
          go_wp2_with fail
          go_round
          case rel => exact ⟨j + 1, by omega, by go_num, rfl, HF2.out⟩
          case measure => simp [intOf]; omega
      · obtain rfl : j = k := by omega
        have hd : decide (fr + (j : Int) < fr + j) = false := by simp
        have h8 := HH.out
        rw [HF.out, if_pos rfl, HX.out] at h8
        simp only [Prod.mk.injEq] at h8
        obtain ⟨rfl, rfl⟩ := h8
        go_wp2_with fail
        go_ret2
        exact ⟨rfl, rfl⟩
end Go.Proofs.YtekpdcofjhdiiaaGreatDoor.Val
