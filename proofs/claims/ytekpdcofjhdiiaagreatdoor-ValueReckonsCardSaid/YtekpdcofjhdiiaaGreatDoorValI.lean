/-
  128 bits held against 128 bits in chapter 10. No condition beyond what each theorem names.
-/
import Derived.Test.YtekpdcofjhdiiaaGreatDoorValH
import Derived.Laws.Bits64b
namespace Go.Proofs.YtekpdcofjhdiiaaGreatDoor.Val
open Go.RowKit Go.Maps
set_option linter.unusedVariables false
set_option linter.unusedSimpArgs false
theorem cmpI_eq {x y x' y' : Int} (h1 : x < y ↔ x' < y') (h2 : x = y ↔ x' = y') : cmpI x y = cmpI x' y' := by
  unfold cmpI
  by_cases a : x < y
  · rw [if_pos a, if_pos (h1.1 a)]
  · rw [if_neg a, if_neg (fun h => a (h1.2 h))]
    by_cases b : x = y
    · rw [if_pos b, if_pos (h2.1 b)]
    · rw [if_neg b, if_neg (fun h => b (h2.2 h))]
theorem size_cmp (h l h' l' : Nat) (hl : l < 18446744073709551616) (hl' : l' < 18446744073709551616) : orI (cmpI h h') (cmpI l l') = cmpI ((h * 18446744073709551616 + l : Nat) : Int) ((h' * 18446744073709551616 + l' : Nat) : Int) := by
  unfold orI
  by_cases h1 : h = h'
  · subst h1
    rw [show cmpI (h : Int) h = 0 by unfold cmpI; rw [if_neg (by omega), if_pos rfl], if_pos rfl]
    exact cmpI_eq (by omega) (by omega)
  · have : cmpI (h : Int) h' ≠ 0 := by
      unfold cmpI
      split
      · decide
      · rw [if_neg (by omega)]; decide
    rw [if_neg this]
    exact cmpI_eq (by omega) (by omega)
theorem cmpI_neg (x y : Int) : cmpI (-x) (-y) = -cmpI x y := by
  rw [cmpI_turn x y, Int.neg_neg]
  exact cmpI_eq (by omega) (by omega)
theorem cmpW_ff (p p' : Nat) : cmpW false p false p' = cmpI p p' := rfl
theorem cmpW_tt (p p' : Nat) : cmpW true p true p' = -cmpI p p' := cmpI_neg _ _
theorem cmpW_tf (p p' : Nat) (h : ¬ (p = 0 ∧ p' = 0)) : cmpW true p false p' = -1 := by
  show cmpI (-(p : Int)) p' = -1
  unfold cmpI
  rw [if_pos (by omega)]
theorem cmpW_ft (p p' : Nat) (h : ¬ (p = 0 ∧ p' = 0)) : cmpW false p true p' = 1 := by
  show cmpI (p : Int) (-(p' : Int)) = 1
  unfold cmpI
  rw [if_neg (by omega), if_neg (by omega)]
theorem cmpW_zero (m m' : Bool) : cmpW m 0 m' 0 = 0 := by cases m <;> cases m' <;> rfl
theorem or_u64 (a b : Nat) (ha : a < 18446744073709551616) (hb : b < 18446744073709551616) : bits .or .u64 (a : Int) (b : Int) = ((a ||| b : Nat) : Int) := bits_or_u64_nat a b ha hb
theorem or_zero (a b : Nat) : a ||| b = 0 ↔ a = 0 ∧ b = 0 := Nat.or_eq_zero_iff
def zeroB (h l h' l' : Nat) : Bool := decide (h = 0) && decide (l = 0) && decide (h' = 0) && decide (l' = 0)
theorem or_lt (a b : Nat) (ha : a < 18446744073709551616) (hb : b < 18446744073709551616) : a ||| b < 18446744073709551616 := by
  rw [show (18446744073709551616 : Nat) = 2 ^ 64 from rfl] at *
  exact Nat.or_lt_two_pow ha hb
theorem zero_nat (a b c d X : Nat) (hX : a ||| b ||| c ||| d = X) : ((X : Int) == 0) = zeroB a b c d := by
  unfold zeroB
  rw [Bool.eq_iff_iff, beq_iff_eq]
  simp only [Bool.and_eq_true, decide_eq_true_eq]
  rw [← or_zero, ← or_zero, ← or_zero, hX]
  exact Int.ofNat_eq_zero
theorem zero_look (h l h' l' : Nat) (a1 : h < 18446744073709551616) (a2 : l < 18446744073709551616) (a3 : h' < 18446744073709551616) (a4 : l' < 18446744073709551616) : (bits .or .u64 (bits .or .u64 (bits .or .u64 (h : Int) (l : Int)) (h' : Int)) (l' : Int) == 0) = zeroB h l h' l' := by
  have e1 := or_u64 h l a1 a2
  have e2 := or_u64 (h ||| l) h' (or_lt h l a1 a2) a3
  have e3 := or_u64 (h ||| l ||| h') l' (or_lt (h ||| l) h' (or_lt h l a1 a2) a3) a4
  rw [e1, e2, e3]
  exact zero_nat h l h' l' _ rfl
def IntS (w : World) (c : Int) (e : Ending) (w' : World) : Prop := e = .returned (.int .i64 c) ∧ Below w.heap.size w w'
def wcmpV (m m' : Bool) (z : Bool) (sz : Int) : Int := if z then 0 else if (m != m') && m then -1 else if m != m' then 1 else if m then -sz else sz
theorem wcmp_plain (m m' z : Bool) (p p' : Nat) (hz : z = decide (p = 0 ∧ p' = 0)) : wcmpV m m' z (cmpI p p') = cmpW m p m' p' := by
  subst hz
  by_cases h : p = 0 ∧ p' = 0
  · rw [decide_eq_true h, h.1, h.2, cmpW_zero]; rfl
  · rw [decide_eq_false h]
    cases m <;> cases m'
    · rw [cmpW_ff]; rfl
    · rw [cmpW_ft _ _ h]; rfl
    · rw [cmpW_tf _ _ h]; rfl
    · rw [cmpW_tt]; rfl
theorem zero_pair (h l h' l' : Nat) : zeroB h l h' l' = decide (h * 18446744073709551616 + l = 0 ∧ h' * 18446744073709551616 + l' = 0) := by
  unfold zeroB
  rw [Bool.eq_iff_iff]
  simp only [Bool.and_eq_true, decide_eq_true_eq]
  omega
theorem wcmp_val (m : Bool) (h l : Nat) (m' : Bool) (h' l' : Nat) (hl : l < 18446744073709551616) (hl' : l' < 18446744073709551616) : wcmpV m m' (zeroB h l h' l') (orI (cmpI h h') (cmpI l l')) = cmpW m (h * 18446744073709551616 + l) m' (h' * 18446744073709551616 + l') := by
  rw [size_cmp h l h' l' hl hl']
  exact wcmp_plain m m' _ _ _ (zero_pair h l h' l')
theorem sz_range (a b c d : Int) : -1 ≤ orI (cmpI a b) (cmpI c d) ∧ orI (cmpI a b) (cmpI c d) ≤ 1 := by
  have key : ∀ x y : Int, -1 ≤ cmpI x y ∧ cmpI x y ≤ 1 := fun x y => by unfold cmpI; split; decide; split <;> decide
  unfold orI
  split
  · exact key c d
  · exact key a b
set_option maxRecDepth 100000 in
set_option maxHeartbeats 2000000 in
theorem wcmp_any (m : Bool) (h l : Nat) (m' : Bool) (h' l' : Nat) (a1 : h < 18446744073709551616) (a2 : l < 18446744073709551616) (a3 : h' < 18446744073709551616) (a4 : l' < 18446744073709551616) (w : World) : Calls Tryz.prog 31 #[.agg #[.bool m, .int .u64 h, .int .u64 l], .agg #[.bool m', .int .u64 h', .int .u64 l']] w (IntS w (cmpW m (h * 18446744073709551616 + l) m' (h' * 18446744073709551616 + l'))) := by
  rw [← wcmp_val m h l m' h' l' a2 a4]
  have hz := zero_look h l h' l' a1 a2 a3 a4
  obtain ⟨Z, hZ⟩ : ∃ Z, zeroB h l h' l' = Z := ⟨_, rfl⟩
  obtain ⟨s1, s2⟩ := sz_range h h' l l'
  rw [hZ] at hz ⊢
  obtain ⟨c, hc⟩ : ∃ c, cmpI (h : Int) h' = c := ⟨_, rfl⟩
  obtain ⟨d, hd⟩ : ∃ d, cmpI (l : Int) l' = d := ⟨_, rfl⟩
  obtain ⟨S, hS⟩ : ∃ S, orI c d = S := ⟨_, rfl⟩
  rw [hc, hd, hS] at s1 s2
  rw [hc, hd, hS]
  have HC := Lib.hid hc
  have HD := Lib.hid hd
  have HS := Lib.hid hS
  have K1 : ∀ W, Calls Tryz.prog 54 #[.int .u64 h, .int .u64 h'] W fun e w' => e = .returned (.int .i64 c) ∧ w' = W := fun W => (cmp_u h h' W).mono fun e w' he => ⟨by rw [he.1, hc], he.2.symm⟩
  have K2 : ∀ W, Calls Tryz.prog 54 #[.int .u64 l, .int .u64 l'] W fun e w' => e = .returned (.int .i64 d) ∧ w' = W := fun W => (cmp_u l l' W).mono fun e w' he => ⟨by rw [he.1, hd], he.2.symm⟩
  have HK1 := Lib.hid K1
  have HK2 := Lib.hid K2
  clear hZ hc hd hS a1 a2 a3 a4 K1 K2
  go_enter Tryz.func31, Tryz.ntmps31
  go_upto_region 1 with fail
  obtain ⟨W0, hW0⟩ : ∃ W0, ((w.alloc (.cells #[.bool m, .int .u64 h, .int .u64 l] 52)).alloc (.cells #[.bool m', .int .u64 h', .int .u64 l'] 52)) = W0 := ⟨_, rfl⟩
  rw [hW0]
  have hB : Below w.heap.size w W0 := by rw [← hW0]; exact below2 _ _ _
  have c0 : W0.cell? ⟨w.heap.size, 0, none⟩ = some (.bool m) := by rw [← hW0]; simp
  have c1 : W0.cell? ⟨w.heap.size, 1, none⟩ = some (.int .u64 h) := by rw [← hW0]; simp
  have c2 : W0.cell? ⟨w.heap.size, 2, none⟩ = some (.int .u64 l) := by rw [← hW0]; simp
  have c3 : W0.cell? ⟨w.heap.size + 1, 0, none⟩ = some (.bool m') := by rw [← hW0]; simp
  have c4 : W0.cell? ⟨w.heap.size + 1, 1, none⟩ = some (.int .u64 h') := by rw [← hW0]; simp
  have c5 : W0.cell? ⟨w.heap.size + 1, 2, none⟩ = some (.int .u64 l') := by rw [← hW0]; simp
  have HBW := Lib.hid hB
  have hsz : w.heap.size + 1 < W0.heap.size := World.block_lt_of_cell? _ _ c3
  have hsz0 : w.heap.size < W0.heap.size := by omega
  clear hB hW0
  go_still_tail 10, (by kernel_rfl)
  still_call (HK1.out _)
  repeat still_step
  still_call (HK2.out _)
  repeat still_step
  refine wpStill_nil ?_
  change wpList _ _ _ _ _ (World.drew _)
  go_wp2_with fail
  refine (or_any c d _ _ (by simp) (by simp)).mono ?_
  rintro e w' ⟨rfl, rfl⟩
  rw [HS.out]
  rcases Z with _ | _ <;> rcases m with _ | _ <;> rcases m' with _ | _
  all_goals
    go_wp2_with fail
    go_ret
    exact ⟨rfl, HBW.out.drew.alloc (by have := HBW.out.size; exact this) _⟩
end Go.Proofs.YtekpdcofjhdiiaaGreatDoor.Val
