/-
  The reference's Text of chapter 10. No condition beyond what each theorem names.
-/
import Derived.Test.YtekpdcofjhdiiaaGreatDoorValRD
namespace Go.Proofs.YtekpdcofjhdiiaaGreatDoor.Val
open Go.RowKit Go.Maps Go.Lib
set_option linter.unusedVariables false
set_option linter.unusedSimpArgs false
set_option maxRecDepth 100000 in
set_option maxHeartbeats 1000000 in
theorem rtext_no (xn : Bool) (xv : Int) (xs : ByteArray) (k s : Int) (w : World) (h : fitsB ⟨k, s⟩ true ⟨xn, xv, xs⟩ = false) : Calls Tryz.prog 10 #[.agg #[.bool xn, .int .i64 xv, .string xs], .agg #[.int .i64 k, .int .i64 s]] w (TxS w none) := by
  have H := Lib.hid h
  clear h
  go_enter Tryz.func10, Tryz.ntmps10
  go_wp2_with fail
  refine (rfits_any k s true xn xv xs _ _ H.out).mono ?_
  rintro e w1 ⟨rfl, c1⟩
  have C1 := Lib.hid ((below2 _ _ _).trans (c1.mono (by simp; omega)))
  clear c1
  go_wp2_with fail
  go_ret2
  exact ⟨rfl, C1.out⟩
set_option maxRecDepth 100000 in
set_option maxHeartbeats 1000000 in
theorem rtext_null (xv : Int) (xs : ByteArray) (k s : Int) (w : World) (h : fitsB ⟨k, s⟩ true ⟨true, xv, xs⟩ = true) : Calls Tryz.prog 10 #[.agg #[.bool true, .int .i64 xv, .string xs], .agg #[.int .i64 k, .int .i64 s]] w (TxS w (some [78, 85, 76, 76])) := by
  have H := Lib.hid h
  clear h
  go_enter Tryz.func10, Tryz.ntmps10
  go_wp2_with fail
  refine (rfits_any k s true true xv xs _ _ H.out).mono ?_
  rintro e w1 ⟨rfl, c1⟩
  have C1 := Lib.hid ((below2 w (.cells #[.bool true, .int .i64 xv, .string xs] 23) (.cells #[.int .i64 k, .int .i64 s] 25)).trans (c1.mono (by simp; omega)))
  have q0 : w1.cell? ⟨w.heap.size, 0, none⟩ = some (.bool true) := cell_later c1 (by simp)
  clear c1
  go_wp2_with fail
  go_ret2
  exact tx_some (by rfl) C1.out
set_option maxRecDepth 100000 in
set_option maxHeartbeats 1000000 in
theorem rtext_bool (xv : Int) (xs : ByteArray) (s : Int) (w : World) (h : fitsB ⟨4, s⟩ true ⟨false, xv, xs⟩ = true) (b : Bool) (hb : (xv == 1) = b) : Calls Tryz.prog 10 #[.agg #[.bool false, .int .i64 xv, .string xs], .agg #[.int .i64 4, .int .i64 s]] w (TxS w (some (if b then [84, 82, 85, 69] else [70, 65, 76, 83, 69]))) := by
  have H := Lib.hid h
  clear h
  cases b
  all_goals
    go_enter Tryz.func10, Tryz.ntmps10
    go_wp2_with fail
    refine (rfits_any 4 s true false xv xs _ _ H.out).mono ?_
    rintro e w1 ⟨rfl, c1⟩
    have C1 := Lib.hid ((below2 w (.cells #[.bool false, .int .i64 xv, .string xs] 23) (.cells #[.int .i64 4, .int .i64 s] 25)).trans (c1.mono (by simp; omega)))
    have q0 : w1.cell? ⟨w.heap.size, 0, none⟩ = some (.bool false) := cell_later c1 (by simp)
    have q1 : w1.cell? ⟨w.heap.size, 1, none⟩ = some (.int .i64 xv) := cell_later c1 (by simp)
    have q3 : w1.cell? ⟨w.heap.size + 1, 0, none⟩ = some (.int .i64 4) := cell_later c1 (by simp)
    clear c1
    go_wp2_with fail
    go_ret2
    exact tx_some (by rfl) C1.out
theorem quote_snoc (l : List UInt8) (c : UInt8) : quoteL (l ++ [c]) = quoteL l ++ (if c = 39 then [39, 39] else [c]) := by
  unfold quoteL
  rw [List.flatMap_append]
  simp
theorem byte_piece (S : ByteArray) (i : Nat) (h : i < S.size) : (S.extract i (i + 1)).data.toList = [S.data.toList[i]'(by rw [Array.length_toList]; exact h)] := by
  rw [ByteArray.data_extract, Array.toList_extract]
  rw [List.extract_eq_take_drop]
  rw [show i + 1 - i = 1 by omega]
  rw [List.drop_eq_getElem_cons (by rw [Array.length_toList]; exact h)]
  rfl
set_option maxRecDepth 100000 in
set_option maxHeartbeats 2000000 in
theorem rtext_bytes (xv : Int) (xs : ByteArray) (s : Int) (w : World) (h : fitsB ⟨3, s⟩ true ⟨false, xv, xs⟩ = true) : Calls Tryz.prog 10 #[.agg #[.bool false, .int .i64 xv, .string xs], .agg #[.int .i64 3, .int .i64 s]] w (TxS w (some (39 :: (quoteL xs.data.toList ++ [39])))) := by
  have H := Lib.hid h
  have hz : xs.size ≤ 200 := by
    unfold fitsB at h
    simp only [Bool.false_eq_true, if_false, Bool.and_eq_true, decide_eq_true_eq] at h
    have := h.2
    simp at this
    exact this.2
  have hzi : (xs.size : Int) ≤ 200 := by omega
  clear h
  go_enter Tryz.func10, Tryz.ntmps10
  go_wp2_with fail
  refine (rfits_any 3 s true false xv xs _ _ H.out).mono ?_
  rintro e w1 ⟨rfl, c1⟩
  have C1 := Lib.hid ((below2 w (.cells #[.bool false, .int .i64 xv, .string xs] 23) (.cells #[.int .i64 3, .int .i64 s] 25)).trans (c1.mono (by simp; omega)))
  have q0 : w1.cell? ⟨w.heap.size, 0, none⟩ = some (.bool false) := cell_later c1 (by simp)
  have q2 : w1.cell? ⟨w.heap.size, 2, none⟩ = some (.string xs) := cell_later c1 (by simp)
  have q3 : w1.cell? ⟨w.heap.size + 1, 0, none⟩ = some (.int .i64 3) := cell_later c1 (by simp)
  clear c1
  go_wp2_with fail
  go_loop [7, 8] (fun t i => ∃ j : Nat, j ≤ xs.size ∧ i = .int .i64 j ∧ ∃ S : ByteArray, t = .string S ∧ S.data.toList = 39 :: quoteL (xs.data.toList.take j)) (fun _ i => 1000 - (Go.RowKit.intOf i).toNat)
  case atStart => exact ⟨0, by omega, rfl, ⟨#[39]⟩, rfl, rfl⟩
  case round =>
    obtain ⟨j, hj, rfl, S, rfl, hS⟩ := hrel
    have hsz : S.size ≤ 1 + 2 * j := by
      have h1 := congrArg List.length hS
      rw [List.length_cons] at h1
      have h2 := quote_len (xs.data.toList.take j)
      rw [List.length_take] at h2
      have h3 : S.data.toList.length = S.size := rfl
      omega
    have HS := Lib.hid hS
    clear hS
    by_cases hlt : j < xs.size
    · have d1 : decide ((j : Int) < (xs.size : Int)) = true := decide_eq_true (by omega)
      have d1' : decide (j < xs.size) = true := decide_eq_true hlt
      obtain ⟨c, hc⟩ : ∃ c, xs.data.toList[j]'(by rw [Array.length_toList]; exact hlt) = c := ⟨_, rfl⟩
      have hp := byte_piece xs j hlt
      rw [hc] at hp
      have ht : xs.data.toList.take (j + 1) = xs.data.toList.take j ++ [c] := by
        rw [List.take_add_one, List.getElem?_eq_getElem (by rw [Array.length_toList]; exact hlt), hc]
        rfl
      have f1 : ∀ W : World, (Instr.slice 9 (.string xs) (some (.int .i64 (j : Int))) (some (.int .i64 ((j : Int) + 1))) none).run Tryz.prog W = .ok (.string (xs.extract j (j + 1))) W := fun W => run_slice_string W _ xs .i64 .i64 (j : Int) ((j : Int) + 1) Tryz.underlying9 (by omega) (by omega) (by omega)
      obtain ⟨P, hP⟩ : ∃ P, xs.extract j (j + 1) = P := ⟨_, rfl⟩
      rw [hP] at hp f1
      have hps : P.size = 1 := by
        have h1 := congrArg List.length hp
        exact h1
      have HP := Lib.hid hp
      have HT := Lib.hid ht
      have hix : xs[j]'hlt = c := hc
      have z1 : ¬ 9223372036854775807 < S.size + 1 := by omega
      have z2 : ¬ 9223372036854775807 < S.size + P.size := by omega
      have z3 : ¬ 9223372036854775807 < S.size + 1 + P.size := by omega
      clear hc hp ht hP
      by_cases h39 : c = 39
      · subst h39
        go_wp2_with fail
        go_round
        case rel => exact ⟨j + 1, by omega, by go_num, _, rfl, by rw [ByteArray.data_append, ByteArray.data_append, Array.toList_append, Array.toList_append, HS.out, HP.out, HT.out, quote_snoc]; simp⟩
        case measure => simp [Go.RowKit.intOf]; omega
      · have e39 : ((c.toNat : Int) == 39) = false := by
          rw [beq_eq_false_iff_ne]
          intro h9
          exact h39 (UInt8.toNat_inj.1 (by simp; omega))
        go_wp2_with fail
        go_round
        case rel => exact ⟨j + 1, by omega, by go_num, _, rfl, by rw [ByteArray.data_append, Array.toList_append, HS.out, HP.out, HT.out, quote_snoc, if_neg h39]; simp⟩
        case measure => simp [Go.RowKit.intOf]; omega
    · obtain rfl : j = xs.size := by omega
      have d1 : decide ((xs.size : Int) < (xs.size : Int)) = false := decide_eq_false (by omega)
      have d1' : decide (xs.size < xs.size) = false := decide_eq_false hlt
      have z1 : ¬ 9223372036854775807 < S.size + 1 := by omega
      go_wp2_with fail
      go_ret2
      refine tx_some ?_ C1.out
      rw [ByteArray.data_append, Array.toList_append, HS.out, List.take_of_length_le (by rw [Array.length_toList]; exact Nat.le_refl _)]
      rfl
set_option maxRecDepth 100000 in
set_option maxHeartbeats 2000000 in
theorem rtext_num (xv : Int) (hx : I64 xv) (xs : ByteArray) (k : Int) (kn : Nat) (hk9 : kn ≤ 9) (w : World) (h : fitsB ⟨k, kn⟩ true ⟨false, xv, xs⟩ = true) (e4 : (k == 4) = false) (e3 : (k == 3) = false) : Calls Tryz.prog 10 #[.agg #[.bool false, .int .i64 xv, .string xs], .agg #[.int .i64 k, .int .i64 kn]] w (TxS w (some (decT xv kn))) := by
  have H := Lib.hid h
  have HDG := Lib.hid (fun W => rdig_any xv hx kn hk9 W)
  have hlen : (digitsL xv.natAbs (kn + 1)).length ≤ 40 := by
    have h1 := rem_len xv.natAbs (kn + 1) (by unfold I64 at hx; omega)
    rw [rem_start _ _ (by omega)] at h1
    omega
  have hdl := digits_len xv.natAbs (kn + 1)
  obtain ⟨D1, hD1⟩ : ∃ D1 : ByteArray, (⟨(digitsL xv.natAbs (kn + 1)).toArray⟩ : ByteArray) = D1 := ⟨_, rfl⟩
  have h1l : D1.data.toList = digitsL xv.natAbs (kn + 1) := by rw [← hD1]
  have h1s : D1.size = (digitsL xv.natAbs (kn + 1)).length := by rw [← hD1, size_mk]
  rw [← h1s] at hdl hlen
  have HD := Lib.hid (show ∀ W, Calls Tryz.prog 43 #[.int .i64 xv, .int .i64 ((kn : Int) + 1)] W fun e w' => e = .returned (.string D1) ∧ Below W.heap.size W w' from fun W => by
    have h9 := HDG.out W
    unfold StrS at h9
    rw [hD1] at h9
    exact h9)
  obtain ⟨sg, hsg⟩ : ∃ sg, decide (xv < 0) = sg := ⟨_, rfl⟩
  obtain ⟨m, hm⟩ : ∃ m : Nat, (D1.size : Int) - (kn : Int) = (m : Int) := ⟨D1.size - kn, by omega⟩
  have hmn : m = D1.size - kn := by omega
  have f1 : ∀ W : World, (Instr.slice 9 (.string D1) none (some (.int .i64 (m : Int))) none).run Tryz.prog W = .ok (.string (D1.extract 0 m)) W := fun W => run_slice_string_h W _ D1 Tryz.underlying9 .i64 (m : Int) (by omega) (by omega)
  have f2 : ∀ W : World, (Instr.slice 9 (.string D1) (some (.int .i64 (m : Int))) none none).run Tryz.prog W = .ok (.string (D1.extract m D1.size)) W := fun W => run_slice_string_l W _ D1 Tryz.underlying9 .i64 (m : Int) (by omega) (by omega)
  obtain ⟨P1, hP1⟩ : ∃ P1, D1.extract 0 m = P1 := ⟨_, rfl⟩
  obtain ⟨P2, hP2⟩ : ∃ P2, D1.extract m D1.size = P2 := ⟨_, rfl⟩
  have p1s : P1.size ≤ 40 := by rw [← hP1, ByteArray.size_extract]; omega
  have p2s : P2.size ≤ 40 := by rw [← hP2, ByteArray.size_extract]; omega
  rw [hP1] at f1
  rw [hP2] at f2
  have zb : ¬ 9223372036854775807 < P1.size + 1 := by omega
  have zc : ¬ 9223372036854775807 < P1.size + 1 + P2.size := by omega
  have hfin : 0 < kn → (P1 ++ ⟨#[46]⟩ ++ P2).data.toList = pointL D1.data.toList kn := fun hk => by
    rw [← hP1, ← hP2, ByteArray.data_append, ByteArray.data_append, Array.toList_append, Array.toList_append, list_take, list_drop]
    unfold pointL
    rw [if_neg (by omega), hmn, Array.length_toList]
    simp
  have zd : ¬ 9223372036854775807 < 1 + (P1 ++ ⟨#[46]⟩ ++ P2).size := by rw [ByteArray.size_append, ByteArray.size_append]; show ¬ _ < 1 + (P1.size + 1 + P2.size); omega
  have ze : ¬ 9223372036854775807 < 1 + D1.size := by omega
  have HRES := Lib.hid (show decT xv kn = signL sg (pointL D1.data.toList kn) by unfold decT; rw [hsg, h1l])
  have HM := Lib.hid hm
  have HF1 := Lib.hid f1
  have HF2 := Lib.hid f2
  have HFI := Lib.hid hfin
  have h1x : (D1.size : Int) ≤ 40 := by omega
  obtain ⟨FN, hFN⟩ : ∃ FN, P1 ++ ⟨#[46]⟩ ++ P2 = FN := ⟨_, rfl⟩
  rw [hFN] at HFI zd
  have HFN := Lib.hid hFN
  clear f1 f2 hm hP1 hP2 hmn hfin hFN h1l h1s hD1 hdl hx h
  have hkc : (kn = 0 ∧ decide (0 < (kn : Int)) = false ∧ decide (0 < kn) = false) ∨ (0 < kn ∧ decide (0 < (kn : Int)) = true ∧ decide (0 < kn) = true) := by
    rcases Nat.eq_zero_or_pos kn with h | h
    · exact .inl ⟨h, decide_eq_false (by omega), decide_eq_false (by omega)⟩
    · exact .inr ⟨h, decide_eq_true (by omega), decide_eq_true h⟩
  have HKC := Lib.hid hkc
  have HSG := Lib.hid hsg
  clear hkc hsg
  go_enter Tryz.func10, Tryz.ntmps10
  go_wp2_with fail
  refine (rfits_any k _ true false xv xs _ _ H.out).mono ?_
  rintro e w1 ⟨rfl, c1⟩
  have C1 := Lib.hid ((below2 w (.cells #[.bool false, .int .i64 xv, .string xs] 23) (.cells #[.int .i64 k, .int .i64 kn] 25)).trans (c1.mono (by simp; omega)))
  have q0 : w1.cell? ⟨w.heap.size, 0, none⟩ = some (.bool false) := cell_later c1 (by simp)
  have q1 : w1.cell? ⟨w.heap.size, 1, none⟩ = some (.int .i64 xv) := cell_later c1 (by simp)
  have q3 : w1.cell? ⟨w.heap.size + 1, 0, none⟩ = some (.int .i64 k) := cell_later c1 (by simp)
  have q4 : w1.cell? ⟨w.heap.size + 1, 1, none⟩ = some (.int .i64 kn) := cell_later c1 (by simp)
  clear c1
  go_wp2_with fail
  refine (HD.out _).mono ?_
  rintro e w2 ⟨rfl, c2⟩
  have C2 := Lib.hid (C1.out.trans (c2.mono C1.out.size))
  have u1 := cell_later c2 q1
  have u4 := cell_later c2 q4
  clear c2 q0 q1 q3 q4
  rcases HKC.out with ⟨hk0, dk, dk2⟩ | ⟨hk0, dk, dk2⟩
  · subst hk0
    have hsg := HSG.out
    cases sg
    · go_wp2_with fail
      go_ret2
      exact tx_some (by rw [HRES.out]; rfl) C2.out
    · go_wp2_with fail
      go_ret2
      exact tx_some (by rw [HRES.out, ByteArray.data_append, Array.toList_append]; rfl) C2.out
  · have hm9 := HM.out
    have HK0 := Lib.hid hk0
    go_upto_region 22 with fail
    have f1 := HF1.out
    have f2 := HF2.out
    go_quiet (fail)
    have hfn9 := HFN.out
    have hsg := HSG.out
    cases sg
    · go_wp2_with fail
      go_ret2
      exact tx_some (by rw [HRES.out, ← HFI.out HK0.out, ← HFN.out]; rfl) (C2.out.trans ⟨rfl, rfl, rfl, Nat.le_refl _, fun _ _ => rfl⟩)
    · go_wp2_with fail
      go_ret2
      exact tx_some (by rw [HRES.out, ← HFI.out HK0.out, ByteArray.data_append, Array.toList_append, ← HFN.out]; rfl) (C2.out.trans ⟨rfl, rfl, rfl, Nat.le_refl _, fun _ _ => rfl⟩)
theorem rtext_any (x : Va) (t : Ty) (hx : I64 x.n) (w : World) (o : Option (List UInt8)) (ho : textP x t = o) : Calls Tryz.prog 10 #[.agg #[.bool x.null, .int .i64 x.n, .string x.s], .agg #[.int .i64 t.kind, .int .i64 t.scale]] w (TxS w o) := by
  obtain ⟨xn, xv, xs⟩ := x
  obtain ⟨k, s⟩ := t
  unfold textP at ho
  cases h : fitsB ⟨k, s⟩ true ⟨xn, xv, xs⟩ with
  | false =>
    rw [h] at ho
    subst ho
    exact rtext_no xn xv xs k s w h
  | true =>
    rw [h] at ho
    cases xn with
    | true =>
      subst ho
      exact rtext_null xv xs k s w h
    | false =>
      simp only [Bool.not_true, Bool.false_eq_true, if_false] at ho
      by_cases h4 : k = 4
      · subst h4
        subst ho
        exact rtext_bool xv xs s w h _ rfl
      · have e4 : (k == 4) = false := beq_eq_false_iff_ne.2 h4
        rw [e4] at ho
        by_cases h3 : k = 3
        · subst h3
          subst ho
          exact rtext_bytes xv xs s w h
        · have e3 : (k == 3) = false := beq_eq_false_iff_ne.2 h3
          rw [e3] at ho
          subst ho
          have hr : 0 ≤ s ∧ s ≤ 9 := by
            unfold fitsB tyB at h
            simp only [Bool.and_eq_true, Bool.or_eq_true, beq_iff_eq, decide_eq_true_eq] at h
            have := h.1
            omega
          obtain ⟨kn, rfl⟩ : ∃ kn : Nat, s = kn := ⟨s.toNat, by omega⟩
          exact rtext_num xv hx xs k kn (by omega) w h e4 e3
end Go.Proofs.YtekpdcofjhdiiaaGreatDoor.Val
