/-
  The reference's Compare whole, and Order of chapter 10. No condition beyond what each theorem names.
-/
import Derived.Test.YtekpdcofjhdiiaaGreatDoorValRCmp
namespace Go.Proofs.YtekpdcofjhdiiaaGreatDoor.Val
open Go.RowKit Go.Maps
set_option linter.unusedVariables false
set_option linter.unusedSimpArgs false
theorem parts_three (n m : Int) (j k : Nat) (hj : j ≤ 9) (hk : k ≤ 9) (p q r s c : Int) (hp : n.tdiv (ten j) = p) (hq : n.tmod (ten j) * ten (9 - j) = q) (hr : m.tdiv (ten k) = r) (hs : m.tmod (ten k) * ten (9 - k) = s) (hc : cmpI (n * ten (9 - j)) (m * ten (9 - k)) = c) :
    (decide (p < r) = true ∧ decide (r < p) = false ∧ (p == r) = false ∧ c = -1) ∨ (decide (p < r) = false ∧ decide (r < p) = true ∧ (p == r) = false ∧ c = 1) ∨ (decide (p < r) = false ∧ decide (r < p) = false ∧ (p == r) = true ∧ (if decide (q < s) then -1 else if decide (s < q) then 1 else 0 : Int) = c) := by
  have h1 := parts_cmp n m j k hj hk
  have h2 := parts_cmp m n k j hk hj
  rw [hp, hq, hr, hs] at h1 h2
  obtain ⟨N, hN⟩ : ∃ N, n * ten (9 - j) = N := ⟨_, rfl⟩
  obtain ⟨M, hM⟩ : ∃ M, m * ten (9 - k) = M := ⟨_, rfl⟩
  rw [hN, hM] at h1 h2 hc
  have hv : (N < M ∧ c = -1) ∨ (M < N ∧ c = 1) ∨ (N = M ∧ c = 0) := by
    unfold cmpI at hc
    by_cases h3 : N < M
    · rw [if_pos h3] at hc; exact .inl ⟨h3, hc.symm⟩
    · rw [if_neg h3] at hc
      by_cases h4 : N = M
      · rw [if_pos h4] at hc; exact .inr (.inr ⟨h4, hc.symm⟩)
      · rw [if_neg h4] at hc; exact .inr (.inl ⟨by omega, hc.symm⟩)
  clear hN hM hp hq hr hs hc
  by_cases e1 : p < r
  · refine .inl ⟨decide_eq_true e1, decide_eq_false (by omega), beq_eq_false_iff_ne.2 (by omega), ?_⟩
    have := h1.1 (.inl e1)
    omega
  · by_cases e2 : r < p
    · refine .inr (.inl ⟨decide_eq_false (by omega), decide_eq_true e2, beq_eq_false_iff_ne.2 (by omega), ?_⟩)
      have := h2.1 (.inl e2)
      omega
    · refine .inr (.inr ⟨decide_eq_false e1, decide_eq_false e2, beq_iff_eq.2 (by omega), ?_⟩)
      by_cases e3 : q < s
      · rw [decide_eq_true e3, if_pos rfl]
        have := h1.1 (.inr ⟨by omega, e3⟩)
        omega
      · rw [decide_eq_false e3, if_neg (by decide)]
        by_cases e4 : s < q
        · rw [decide_eq_true e4, if_pos rfl]
          have := h2.1 (.inr ⟨by omega, e4⟩)
          omega
        · rw [decide_eq_false e4, if_neg (by decide)]
          have h5 : ¬ N < M := fun h => by have := h1.2 h; omega
          have h6 : ¬ M < N := fun h => by have := h2.2 h; omega
          omega
theorem pak_of (n : Int) (k : Nat) (hn : I64 n) (hk : k ≤ 9) : PaK n (k : Int) (n.tdiv (ten k)) (n.tmod (ten k) * ten (9 - k)) := fun W => by
  have hp := ten_pos k
  have h1 : wrap64 (n.tdiv (ten k)) = n.tdiv (ten k) := tdiv_i64 hn (fun h => by omega)
  have h2 := parts_small n k hk
  have h3 : I64 (n.tmod (ten k) * ten (9 - k)) := by
    unfold I64 at hn ⊢
    rcases Int.le_total 0 n with h | h
    · have := h2.1 h; omega
    · have := h2.2 h; omega
  exact rparts_any n k hk _ _ h1 (wrap_fits (fits_iff.2 h3)) W
theorem fits_ty {t : Ty} {nu : Bool} {x : Va} (h : fitsB t nu x = true) : tyB t = true := by
  unfold fitsB at h
  rw [Bool.and_eq_true] at h
  exact h.1
theorem numB_of {t : Ty} {b : Bool} (h : tyB t = true) (hb : (t.kind == 1 || t.kind == 2) = b) : numB t = b := by
  unfold numB
  rw [h, hb]
  rfl
theorem rcompare_any (x y : Va) (ta tb : Ty) (hx : I64 x.n) (hy : I64 y.n) (w : World) (o : Option Int) (ho : cmpP x y ta tb = o) : Calls Tryz.prog 8 #[.agg #[.bool x.null, .int .i64 x.n, .string x.s], .agg #[.bool y.null, .int .i64 y.n, .string y.s], .agg #[.int .i64 ta.kind, .int .i64 ta.scale], .agg #[.int .i64 tb.kind, .int .i64 tb.scale]] w (CmpS w o) := by
  obtain ⟨xn, xv, xs⟩ := x
  obtain ⟨yn, yv, ys⟩ := y
  obtain ⟨ka, sa⟩ := ta
  obtain ⟨kb, sb⟩ := tb
  unfold cmpP at ho
  cases h1 : fitsB ⟨ka, sa⟩ false ⟨xn, xv, xs⟩ with
  | false =>
    rw [h1] at ho
    subst ho
    exact rcmp_no_x xn yn xv yv ka sa kb sb xs ys _ h1 rfl w
  | true =>
    cases h2 : fitsB ⟨kb, sb⟩ false ⟨yn, yv, ys⟩ with
    | false =>
      rw [h1, h2] at ho
      subst ho
      exact rcmp_no_y xn yn xv yv ka sa kb sb xs ys h1 h2 w
    | true =>
      rw [h1, h2] at ho
      simp only [Bool.not_true, Bool.or_self, Bool.false_eq_true, if_false] at ho
      have ta := fits_ty h1
      have tb := fits_ty h2
      cases ea : (ka == 1 || ka == 2) with
      | true =>
        have na := numB_of (t := ⟨ka, sa⟩) ta ea
        obtain ⟨a0, a9, _⟩ := num_range na
        change 0 ≤ sa at a0
        change sa ≤ 9 at a9
        obtain ⟨j, rfl⟩ := Int.eq_ofNat_of_zero_le a0
        have ea3 : (ka == 3) = false := by
          simp only [Bool.or_eq_true, beq_iff_eq] at ea
          rw [beq_eq_false_iff_ne]
          omega
        cases eb : (kb == 1 || kb == 2) with
        | true =>
          have nb := numB_of (t := ⟨kb, sb⟩) tb eb
          obtain ⟨b0, b9, _⟩ := num_range nb
          change 0 ≤ sb at b0
          change sb ≤ 9 at b9
          obtain ⟨k, rfl⟩ := Int.eq_ofNat_of_zero_le b0
          rw [na, nb] at ho
          simp only [Bool.and_self, if_true] at ho
          subst ho
          refine rcmp_n_true xn yn xv yv ka j kb k xs ys _ _ _ _ _ ea3 ?_ h1 h2 ⟨ea⟩ ⟨eb⟩ (pak_of xv j hx (by omega)) (pak_of yv k hy (by omega)) w
          refine parts_three xv yv j k (by omega) (by omega) _ _ _ _ _ rfl rfl rfl rfl ?_
          rw [show (9 - (j : Int)).toNat = 9 - j by omega, show (9 - (k : Int)).toNat = 9 - k by omega]
          rfl
        | false =>
          have nb := numB_of (t := ⟨kb, sb⟩) tb eb
          rw [na, nb] at ho
          simp only [Bool.and_false, Bool.false_eq_true, if_false, Bool.or_true, if_true] at ho
          subst ho
          exact rcmp_no_n1 xn yn xv yv ka j kb sb xs ys h1 h2 ⟨ea⟩ ⟨eb⟩ w
      | false =>
        have na := numB_of (t := ⟨ka, sa⟩) ta ea
        rw [na] at ho
        simp only [Bool.false_and, Bool.false_eq_true, if_false, Bool.or_false] at ho
        cases eb : (kb == 1 || kb == 2) with
        | true =>
          have hk : (ka == kb) = false := by
            cases hk : (ka == kb) with
            | false => rfl
            | true =>
              rw [show ka = kb by simpa using hk, eb] at ea
              cases ea
          rw [show (ka != kb) = true by rw [bne, hk]; rfl] at ho
          subst ho
          exact rcmp_no_n2 xn yn xv yv ka sa kb sb xs ys h1 h2 ⟨ea⟩ ⟨eb⟩ w
        | false =>
          cases hk : (ka == kb) with
          | false =>
            have hk1 : (ka != kb) = true := by rw [bne, hk]; rfl
            rw [hk1] at ho
            subst ho
            exact rcmp_no_k xn yn xv yv ka sa kb sb xs ys hk1 hk h1 h2 ⟨ea⟩ ⟨eb⟩ w
          | true =>
            have hk1 : (ka != kb) = false := by rw [bne, hk]; rfl
            obtain rfl : ka = kb := by simpa using hk
            have zero : ∀ s, tyB ⟨ka, s⟩ = true → s = 0 := fun s h => by
              unfold tyB at h
              simp only [Bool.or_eq_true, Bool.and_eq_true, beq_iff_eq, decide_eq_true_eq] at h
              simp only [Bool.or_eq_false_iff, beq_eq_false_iff_ne] at ea
              omega
            obtain rfl := zero sa ta
            obtain rfl := zero sb tb
            rw [hk1] at ho
            simp only [bne_self_eq_false, Bool.or_self, Bool.false_eq_true, if_false] at ho
            subst ho
            cases e3 : (ka == 3) with
            | true =>
              obtain rfl : ka = 3 := by simpa using e3
              have z : ∀ n v s, fitsB ⟨3, 0⟩ false ⟨n, v, s⟩ = true → v = 0 := fun n v s h => by
                unfold fitsB at h
                cases n
                · simp [tyB] at h
                  exact h.1
                · simp [tyB] at h
              obtain rfl := z _ _ _ h1
              obtain rfl := z _ _ _ h2
              have h9 := rcmp_b xn yn 0 0 3 0 3 0 xs ys _ e3 hk1 hk rfl h1 h2 ⟨ea⟩ ⟨eb⟩ w
              refine Calls.mono h9 ?_
              rintro e w' ⟨rfl, c⟩
              refine ⟨?_, c⟩
              show Ending.returned (.tuple #[.int .i64 _, .bool true]) = Ending.returned (.tuple #[.int .i64 _, .bool true])
              have hv : (if Op.bytesLess xs.toList ys.toList then -1 else if (!Op.bytesLess xs.toList ys.toList && !xs.toList == ys.toList) then 1 else 0 : Int) = (if cmpS xs.data.toList ys.data.toList ≠ 0 then cmpS xs.data.toList ys.data.toList else cmpI 0 0) := by
                rw [ByteArray.toList_eq, ByteArray.toList_eq]
                unfold cmpS
                by_cases e : xs.data.toList = ys.data.toList
                · rw [e, less_irrefl]
                  simp [cmpI]
                · cases h : Op.bytesLess xs.data.toList ys.data.toList
                  · have e2 : ¬ xs.data = ys.data := fun h => e (by rw [h])
                    simp [e2]
                  · simp
              rw [hv]
              rfl
            | false =>
              have h4 : ka = 4 := by
                unfold tyB at ta
                simp only [Bool.or_eq_true, Bool.and_eq_true, beq_iff_eq, decide_eq_true_eq] at ta
                simp only [Bool.or_eq_false_iff, beq_eq_false_iff_ne] at ea e3
                omega
              subst h4
              have z : ∀ n v s, fitsB ⟨4, 0⟩ false ⟨n, v, s⟩ = true → s.size = 0 := fun n v s h => by
                unfold fitsB at h
                cases n
                · simp [tyB] at h
                  exact congrArg ByteArray.size h.1
                · simp [tyB] at h
              have nil : ∀ s : ByteArray, s.size = 0 → s = ⟨#[]⟩ := fun s h => by
                apply ByteArray.ext
                exact Array.eq_empty_of_size_eq_zero h
              obtain rfl := nil _ (z _ _ _ h1)
              obtain rfl := nil _ (z _ _ _ h2)
              refine rcmp_n_false xn yn xv yv 4 (0 : Nat) 4 (0 : Nat) ⟨#[]⟩ ⟨#[]⟩ _ _ _ _ _ rfl rfl rfl ?_ h1 h2 ⟨rfl⟩ ⟨rfl⟩ (pak_of xv 0 hx (by omega)) (pak_of yv 0 hy (by omega)) w
              refine parts_three xv yv 0 0 (by omega) (by omega) _ _ _ _ _ rfl rfl rfl rfl ?_
              show cmpI (xv * ten 9) (yv * ten 9) = cmpI xv yv
              have h9 : ten 9 = 1000000000 := rfl
              rw [h9]
              unfold cmpI
              by_cases e1 : xv < yv
              · rw [if_pos e1, if_pos (by omega)]
              · rw [if_neg e1, if_neg (by omega)]
                by_cases e2 : xv = yv
                · rw [if_pos e2, if_pos (by omega)]
                · rw [if_neg e2, if_neg (by omega)]
set_option maxRecDepth 100000 in
set_option maxHeartbeats 1000000 in
theorem rorder_null (xn : Bool) (xv : Int) (xs : ByteArray) (yn : Bool) (yv : Int) (ys : ByteArray) (k s : Int) (w : World) (h : (xn || yn) = true) : Calls Tryz.prog 12 #[.agg #[.bool xn, .int .i64 xv, .string xs], .agg #[.bool yn, .int .i64 yv, .string ys], .agg #[.int .i64 k, .int .i64 s]] w (IntS w (if xn && yn then 0 else if xn then -1 else 1)) := by
  cases xn <;> cases yn
  · cases h
  all_goals
    go_enter Tryz.func12, Tryz.ntmps12
    go_wp2_with fail
    refine (rorder_any _ _ _ _ rfl).mono ?_
    rintro e w1 ⟨rfl, rfl⟩
    go_wp2_with fail
    go_ret
    exact ⟨rfl, (((Below.refl _ _).alloc (Nat.le_refl _) _).alloc (by simp) _).alloc (by simp; omega) _⟩
set_option maxRecDepth 100000 in
set_option maxHeartbeats 1000000 in
theorem rorder_cmp (xv : Int) (xs : ByteArray) (yv : Int) (ys : ByteArray) (k s : Int) (hx : I64 xv) (hy : I64 yv) (w : World) (c : Int) (b : Bool) (hc : cmpOut (cmpP ⟨false, xv, xs⟩ ⟨false, yv, ys⟩ ⟨k, s⟩ ⟨k, s⟩) = (c, b)) : Calls Tryz.prog 12 #[.agg #[.bool false, .int .i64 xv, .string xs], .agg #[.bool false, .int .i64 yv, .string ys], .agg #[.int .i64 k, .int .i64 s]] w (IntS w c) := by
  have HC := Lib.hid (fun W => rcompare_any ⟨false, xv, xs⟩ ⟨false, yv, ys⟩ ⟨k, s⟩ ⟨k, s⟩ hx hy W _ rfl)
  have HE := Lib.hid hc
  clear hc hx hy
  go_enter Tryz.func12, Tryz.ntmps12
  go_wp2_with fail
  refine (HC.out _).mono ?_
  rintro e w1 ⟨rfl, c1⟩
  rw [HE.out]
  have CX := Lib.hid (((((Below.refl w.heap.size w).alloc (Nat.le_refl _) (.cells #[.bool false, .int .i64 xv, .string xs] 23)).alloc (by simp) (.cells #[.bool false, .int .i64 yv, .string ys] 23)).alloc (by simp; omega) (.cells #[.int .i64 k, .int .i64 s] 25)).trans (c1.mono (by simp; omega)))
  clear c1
  go_wp2_with fail
  go_ret
  exact ⟨rfl, CX.out⟩
theorem rorder_all (x y : Va) (t : Ty) (hx : I64 x.n) (hy : I64 y.n) (w : World) (c : Int) (hc : orderP x y t = c) : Calls Tryz.prog 12 #[.agg #[.bool x.null, .int .i64 x.n, .string x.s], .agg #[.bool y.null, .int .i64 y.n, .string y.s], .agg #[.int .i64 t.kind, .int .i64 t.scale]] w (IntS w c) := by
  obtain ⟨xn, xv, xs⟩ := x
  obtain ⟨yn, yv, ys⟩ := y
  obtain ⟨k, s⟩ := t
  unfold orderP at hc
  cases h : (xn || yn) with
  | true =>
    have h9 := rorder_null xn xv xs yn yv ys k s w h
    have : (if xn && yn then (0 : Int) else if xn then -1 else 1) = c := by
      rw [← hc]
      cases xn <;> cases yn <;> first | rfl | cases h
    rw [this] at h9
    exact h9
  | false =>
    obtain ⟨rfl, rfl⟩ : xn = false ∧ yn = false := by simpa using h
    obtain ⟨c', b, he⟩ : ∃ c' b, cmpOut (cmpP ⟨false, xv, xs⟩ ⟨false, yv, ys⟩ ⟨k, s⟩ ⟨k, s⟩) = (c', b) := ⟨_, _, rfl⟩
    have : c' = c := by rw [← hc]; simp only [Bool.and_self, Bool.false_eq_true, if_false]; rw [he]
    subst this
    exact rorder_cmp xv xs yv ys k s hx hy w c' b he
end Go.Proofs.YtekpdcofjhdiiaaGreatDoor.Val
