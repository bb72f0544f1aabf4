/-
  Text of chapter 10: numbers; and whole. No condition beyond what each theorem names.
-/
import Derived.Test.YtekpdcofjhdiiaaGreatDoorValT
namespace Go.Proofs.YtekpdcofjhdiiaaGreatDoor.Val
open Go.RowKit Go.Maps Go.Lib
set_option linter.unusedVariables false
set_option linter.unusedSimpArgs false
theorem dec_len20 (u : Nat) (h : u < 18446744073709551616) : (decDigits u).length ≤ 20 := by
  rw [decDigits_length]
  by_cases h0 : u = 0
  · subst h0
    rw [nDigits, dif_pos (by decide)]
    decide
  · have := Lib.numDigits_eq u (by omega) h
    split at this <;> omega
theorem repeat_rep (c : Nat) : Lib.repeatL [48] c = List.replicate c 48 := by
  induction c with
  | zero => rfl
  | succ c ih => rw [Lib.repeatL, ih]; rfl
theorem dig_same {u m : Nat} (h : m ≤ (decDigits u).length) : digitsL u m = decDigits u := by
  unfold digitsL
  rw [show m - (decDigits u).length = 0 by omega]
  rfl
theorem list_take (D : ByteArray) (n : Nat) : (D.extract 0 n).data.toList = D.data.toList.take n := by
  rw [ByteArray.data_extract]
  simp
theorem list_drop (D : ByteArray) (n : Nat) : (D.extract n D.size).data.toList = D.data.toList.drop n := by
  rw [ByteArray.data_extract]
  simp
  exact List.take_of_length_le (by simp)
theorem bool_sign (n : Int) : signL (decide (n < 0)) = fun s => if decide (n < 0) then 45 :: s else s := rfl
set_option maxRecDepth 100000 in
set_option maxHeartbeats 2000000 in
theorem tn_000 (xv : Int) (hx : I64 xv) (xs : ByteArray) (k : Int) (kn : Nat) (hk9 : kn ≤ 9) (w : World) (hE : VEnv w) (h : fitsB ⟨k, kn⟩ true ⟨false, xv, xs⟩ = true) (e4 : (k == 4) = false) (e3 : (k == 3) = false) (hp : kn + 1 ≤ (decDigits xv.natAbs).length) (hk0 : kn = 0) (hng : ¬ xv < 0) : Calls Tryz.prog 9 #[.agg #[.bool false, .int .i64 xv, .string xs], .agg #[.int .i64 k, .int .i64 kn]] w (TxS w (some (decT xv kn))) := by
  have H := Lib.hid h
  have HE := Lib.hid hE
  have HW := Lib.hid (fun W => widen_any xv hx W)
  have hN := i64_abs hx
  rw [show decide (xv < 0) = false from decide_eq_false hng] at HW
  have hres : decT xv kn = signL false (pointL (digitsL xv.natAbs (kn + 1)) kn) := by unfold decT; rw [show decide (xv < 0) = false from decide_eq_false hng]
  have hdl := digits_len xv.natAbs (kn + 1)
  obtain ⟨N, hNN⟩ : ∃ N, xv.natAbs = N := ⟨_, rfl⟩
  rw [hNN] at HW hN hres hp hdl
  have hl20 := dec_len20 N hN
  have hl1 := dec_pos N
  have HFU := Lib.hid (fun W hT => fu_any N hN W hT)
  obtain ⟨D0, hD0⟩ : ∃ D0 : ByteArray, (⟨(decDigits N).toArray⟩ : ByteArray) = D0 := ⟨_, rfl⟩
  have h0l : D0.data.toList = decDigits N := by rw [← hD0]
  have h0s : D0.size = (decDigits N).length := by rw [← hD0, size_mk]
  rw [← h0s] at hp hl20 hl1
  have HD0 := Lib.hid hD0
  obtain ⟨D1, hD1⟩ : ∃ D1, D0 = D1 := ⟨_, rfl⟩
  have h1l : D1.data.toList = digitsL N (kn + 1) := by rw [← hD1, h0l]; exact (dig_same (by omega)).symm
  have dc : decide (0 < (kn : Int) + 1 - (D0.size : Int)) = false := decide_eq_false (by omega)
  have h1s : D1.size = (digitsL N (kn + 1)).length := by rw [← h1l]; rw [Array.length_toList]; rfl
  have h1b : D1.size ≤ 40 := by rw [← hD1]; omega
  rw [← h1s] at hdl
  have dk : decide (0 < kn) = false := decide_eq_false (by omega)
  have dk2 : ¬ 0 < kn := by omega
  have hfin : D1.data.toList = pointL (digitsL N (kn + 1)) kn := by rw [h1l]; unfold pointL; rw [if_pos hk0]
  have zd : ¬ 9223372036854775807 < 1 + D1.size := by omega
  have HFI := Lib.hid hfin
  have HRES := Lib.hid hres
  have h1x : (D1.size : Int) ≤ 40 := by omega
  have h0x : (D0.size : Int) ≤ 20 := by omega
  subst hD1
  clear h hE hx hN hD0 h0l h0s hres hfin h1l h1s hdl hng hNN hk0
  go_enter Tryz.func9, Tryz.ntmps9
  go_wp2_with fail
  refine (fits_any k _ true false xv xs _ _ H.out).mono ?_
  rintro e w1 ⟨rfl, c1⟩
  have C1 := Lib.hid ((below2 w (.cells #[.bool false, .int .i64 xv, .string xs] 23) (.cells #[.int .i64 k, .int .i64 kn] 25)).trans (c1.mono (by simp; omega)))
  have q0 : w1.cell? ⟨w.heap.size, 0, none⟩ = some (.bool false) := cell_later c1 (by simp)
  have q1 : w1.cell? ⟨w.heap.size, 1, none⟩ = some (.int .i64 xv) := cell_later c1 (by simp)
  have q3 : w1.cell? ⟨w.heap.size + 1, 0, none⟩ = some (.int .i64 k) := cell_later c1 (by simp)
  have q4 : w1.cell? ⟨w.heap.size + 1, 1, none⟩ = some (.int .i64 kn) := cell_later c1 (by simp)
  clear c1
  go_wp2_with fail
  refine (HW.out _).mono ?_
  rintro e w2 ⟨rfl, c2⟩
  have C2 := Lib.hid ((C1.out.trans (c2.mono C1.out.size)).alloc (Nat.le_trans C1.out.size c2.size) (.cells #[.bool false, .int .u64 0, .int .u64 N] 52))
  have q5 : (w2.alloc (.cells #[.bool false, .int .u64 0, .int .u64 N] 52)).cell? ⟨w.heap.size + 1, 1, none⟩ = some (.int .i64 kn) := cell_later ((Below.refl _ _).alloc (Nat.le_refl _) _) (cell_later c2 q4)
  have q6 : (w2.alloc (.cells #[.bool false, .int .u64 0, .int .u64 N] 52)).cell? ⟨w2.heap.size, 0, none⟩ = some (.bool false) := by simp
  have q7 : (w2.alloc (.cells #[.bool false, .int .u64 0, .int .u64 N] 52)).cell? ⟨w2.heap.size, 2, none⟩ = some (.int .u64 N) := by simp
  clear c2 q0 q1 q3 q4
  go_upto_region 10 with fail
  obtain ⟨T, hT⟩ : ∃ T, w2.heap.size = T := ⟨_, rfl⟩
  obtain ⟨W2, hW2⟩ : ∃ W2, w2.alloc (.cells #[.bool false, .int .u64 0, .int .u64 N] 52) = W2 := ⟨_, rfl⟩
  rw [hW2] at C2 q5 q6 q7
  rw [hT] at q6 q7
  rw [hW2]
  (try rw [hT])
  clear hT hW2
  go_wp2_with fail
  refine (HFU.out _ (HE.out.later C2.out).1).mono ?_
  rintro e w3 ⟨rfl, c3⟩
  rw [HD0.out]
  have C3 := Lib.hid (C2.out.trans (c3.mono C2.out.size))
  have u5 := cell_later c3 q5
  have u6 := cell_later c3 q6
  clear c3 q5 q6 q7
  go_wp2_with fail
  go_ret2
  exact tx_some (by rw [HRES.out, ← HFI.out]; rfl) C3.out
set_option maxRecDepth 100000 in
set_option maxHeartbeats 2000000 in
theorem tn_001 (xv : Int) (hx : I64 xv) (xs : ByteArray) (k : Int) (kn : Nat) (hk9 : kn ≤ 9) (w : World) (hE : VEnv w) (h : fitsB ⟨k, kn⟩ true ⟨false, xv, xs⟩ = true) (e4 : (k == 4) = false) (e3 : (k == 3) = false) (hp : kn + 1 ≤ (decDigits xv.natAbs).length) (hk0 : kn = 0) (hng : xv < 0) : Calls Tryz.prog 9 #[.agg #[.bool false, .int .i64 xv, .string xs], .agg #[.int .i64 k, .int .i64 kn]] w (TxS w (some (decT xv kn))) := by
  have H := Lib.hid h
  have HE := Lib.hid hE
  have HW := Lib.hid (fun W => widen_any xv hx W)
  have hN := i64_abs hx
  rw [show decide (xv < 0) = true from decide_eq_true hng] at HW
  have hres : decT xv kn = signL true (pointL (digitsL xv.natAbs (kn + 1)) kn) := by unfold decT; rw [show decide (xv < 0) = true from decide_eq_true hng]
  have hdl := digits_len xv.natAbs (kn + 1)
  obtain ⟨N, hNN⟩ : ∃ N, xv.natAbs = N := ⟨_, rfl⟩
  rw [hNN] at HW hN hres hp hdl
  have hl20 := dec_len20 N hN
  have hl1 := dec_pos N
  have HFU := Lib.hid (fun W hT => fu_any N hN W hT)
  obtain ⟨D0, hD0⟩ : ∃ D0 : ByteArray, (⟨(decDigits N).toArray⟩ : ByteArray) = D0 := ⟨_, rfl⟩
  have h0l : D0.data.toList = decDigits N := by rw [← hD0]
  have h0s : D0.size = (decDigits N).length := by rw [← hD0, size_mk]
  rw [← h0s] at hp hl20 hl1
  have HD0 := Lib.hid hD0
  obtain ⟨D1, hD1⟩ : ∃ D1, D0 = D1 := ⟨_, rfl⟩
  have h1l : D1.data.toList = digitsL N (kn + 1) := by rw [← hD1, h0l]; exact (dig_same (by omega)).symm
  have dc : decide (0 < (kn : Int) + 1 - (D0.size : Int)) = false := decide_eq_false (by omega)
  have h1s : D1.size = (digitsL N (kn + 1)).length := by rw [← h1l]; rw [Array.length_toList]; rfl
  have h1b : D1.size ≤ 40 := by rw [← hD1]; omega
  rw [← h1s] at hdl
  have dk : decide (0 < kn) = false := decide_eq_false (by omega)
  have dk2 : ¬ 0 < kn := by omega
  have hfin : D1.data.toList = pointL (digitsL N (kn + 1)) kn := by rw [h1l]; unfold pointL; rw [if_pos hk0]
  have zd : ¬ 9223372036854775807 < 1 + D1.size := by omega
  have HFI := Lib.hid hfin
  have HRES := Lib.hid hres
  have h1x : (D1.size : Int) ≤ 40 := by omega
  have h0x : (D0.size : Int) ≤ 20 := by omega
  subst hD1
  clear h hE hx hN hD0 h0l h0s hres hfin h1l h1s hdl hng hNN hk0
  go_enter Tryz.func9, Tryz.ntmps9
  go_wp2_with fail
  refine (fits_any k _ true false xv xs _ _ H.out).mono ?_
  rintro e w1 ⟨rfl, c1⟩
  have C1 := Lib.hid ((below2 w (.cells #[.bool false, .int .i64 xv, .string xs] 23) (.cells #[.int .i64 k, .int .i64 kn] 25)).trans (c1.mono (by simp; omega)))
  have q0 : w1.cell? ⟨w.heap.size, 0, none⟩ = some (.bool false) := cell_later c1 (by simp)
  have q1 : w1.cell? ⟨w.heap.size, 1, none⟩ = some (.int .i64 xv) := cell_later c1 (by simp)
  have q3 : w1.cell? ⟨w.heap.size + 1, 0, none⟩ = some (.int .i64 k) := cell_later c1 (by simp)
  have q4 : w1.cell? ⟨w.heap.size + 1, 1, none⟩ = some (.int .i64 kn) := cell_later c1 (by simp)
  clear c1
  go_wp2_with fail
  refine (HW.out _).mono ?_
  rintro e w2 ⟨rfl, c2⟩
  have C2 := Lib.hid ((C1.out.trans (c2.mono C1.out.size)).alloc (Nat.le_trans C1.out.size c2.size) (.cells #[.bool true, .int .u64 0, .int .u64 N] 52))
  have q5 : (w2.alloc (.cells #[.bool true, .int .u64 0, .int .u64 N] 52)).cell? ⟨w.heap.size + 1, 1, none⟩ = some (.int .i64 kn) := cell_later ((Below.refl _ _).alloc (Nat.le_refl _) _) (cell_later c2 q4)
  have q6 : (w2.alloc (.cells #[.bool true, .int .u64 0, .int .u64 N] 52)).cell? ⟨w2.heap.size, 0, none⟩ = some (.bool true) := by simp
  have q7 : (w2.alloc (.cells #[.bool true, .int .u64 0, .int .u64 N] 52)).cell? ⟨w2.heap.size, 2, none⟩ = some (.int .u64 N) := by simp
  clear c2 q0 q1 q3 q4
  go_upto_region 10 with fail
  obtain ⟨T, hT⟩ : ∃ T, w2.heap.size = T := ⟨_, rfl⟩
  obtain ⟨W2, hW2⟩ : ∃ W2, w2.alloc (.cells #[.bool true, .int .u64 0, .int .u64 N] 52) = W2 := ⟨_, rfl⟩
  rw [hW2] at C2 q5 q6 q7
  rw [hT] at q6 q7
  rw [hW2]
  (try rw [hT])
  clear hT hW2
  go_wp2_with fail
  refine (HFU.out _ (HE.out.later C2.out).1).mono ?_
  rintro e w3 ⟨rfl, c3⟩
  rw [HD0.out]
  have C3 := Lib.hid (C2.out.trans (c3.mono C2.out.size))
  have u5 := cell_later c3 q5
  have u6 := cell_later c3 q6
  clear c3 q5 q6 q7
  go_wp2_with fail
  go_ret2
  exact tx_some (by rw [HRES.out, ← HFI.out]; unfold signL; simp [ByteArray.data_append]) C3.out
set_option maxRecDepth 100000 in
set_option maxHeartbeats 2000000 in
theorem tn_010 (xv : Int) (hx : I64 xv) (xs : ByteArray) (k : Int) (kn : Nat) (hk9 : kn ≤ 9) (w : World) (hE : VEnv w) (h : fitsB ⟨k, kn⟩ true ⟨false, xv, xs⟩ = true) (e4 : (k == 4) = false) (e3 : (k == 3) = false) (hp : kn + 1 ≤ (decDigits xv.natAbs).length) (hk0 : 0 < kn) (hng : ¬ xv < 0) : Calls Tryz.prog 9 #[.agg #[.bool false, .int .i64 xv, .string xs], .agg #[.int .i64 k, .int .i64 kn]] w (TxS w (some (decT xv kn))) := by
  have H := Lib.hid h
  have HE := Lib.hid hE
  have HW := Lib.hid (fun W => widen_any xv hx W)
  have hN := i64_abs hx
  rw [show decide (xv < 0) = false from decide_eq_false hng] at HW
  have hres : decT xv kn = signL false (pointL (digitsL xv.natAbs (kn + 1)) kn) := by unfold decT; rw [show decide (xv < 0) = false from decide_eq_false hng]
  have hdl := digits_len xv.natAbs (kn + 1)
  obtain ⟨N, hNN⟩ : ∃ N, xv.natAbs = N := ⟨_, rfl⟩
  rw [hNN] at HW hN hres hp hdl
  have hl20 := dec_len20 N hN
  have hl1 := dec_pos N
  have HFU := Lib.hid (fun W hT => fu_any N hN W hT)
  obtain ⟨D0, hD0⟩ : ∃ D0 : ByteArray, (⟨(decDigits N).toArray⟩ : ByteArray) = D0 := ⟨_, rfl⟩
  have h0l : D0.data.toList = decDigits N := by rw [← hD0]
  have h0s : D0.size = (decDigits N).length := by rw [← hD0, size_mk]
  rw [← h0s] at hp hl20 hl1
  have HD0 := Lib.hid hD0
  obtain ⟨D1, hD1⟩ : ∃ D1, D0 = D1 := ⟨_, rfl⟩
  have h1l : D1.data.toList = digitsL N (kn + 1) := by rw [← hD1, h0l]; exact (dig_same (by omega)).symm
  have dc : decide (0 < (kn : Int) + 1 - (D0.size : Int)) = false := decide_eq_false (by omega)
  have h1s : D1.size = (digitsL N (kn + 1)).length := by rw [← h1l]; rw [Array.length_toList]; rfl
  have h1b : D1.size ≤ 40 := by rw [← hD1]; omega
  rw [← h1s] at hdl
  obtain ⟨m, hm⟩ : ∃ m : Nat, (D1.size : Int) - (kn : Int) = (m : Int) := ⟨D1.size - kn, by omega⟩
  have hmn : m = D1.size - kn := by omega
  have f1 : ∀ W : World, (Instr.slice 9 (.string D1) none (some (.int .i64 (m : Int))) none).run Tryz.prog W = .ok (.string (D1.extract 0 m)) W := fun W => run_slice_string_h W _ D1 Tryz.underlying9 .i64 (m : Int) (by omega) (by omega)
  have f2 : ∀ W : World, (Instr.slice 9 (.string D1) (some (.int .i64 (m : Int))) none none).run Tryz.prog W = .ok (.string (D1.extract m D1.size)) W := fun W => run_slice_string_l W _ D1 Tryz.underlying9 .i64 (m : Int) (by omega) (by omega)
  obtain ⟨P1, hP1⟩ : ∃ P1, D1.extract 0 m = P1 := ⟨_, rfl⟩
  obtain ⟨P2, hP2⟩ : ∃ P2, D1.extract m D1.size = P2 := ⟨_, rfl⟩
  have p1s : P1.size ≤ 40 := by rw [← hP1, ByteArray.size_extract]; omega
  have p2s : P2.size ≤ 40 := by rw [← hP2, ByteArray.size_extract]; omega
  rw [hP1] at f1
  rw [hP2] at f2
  have zb : ¬ 9223372036854775807 < P1.size + 1 := by omega
  have zc : ¬ 9223372036854775807 < P1.size + 1 + P2.size := by omega
  have hfin : (P1 ++ ⟨#[46]⟩ ++ P2).data.toList = pointL (digitsL N (kn + 1)) kn := by
    rw [← hP1, ← hP2, ByteArray.data_append, ByteArray.data_append, Array.toList_append, Array.toList_append, list_take, list_drop, h1l]
    unfold pointL
    rw [if_neg (by omega), hmn, h1s]
    simp
  have dk : decide (0 < (kn : Int)) = true := decide_eq_true (by omega)
  have dk2 : 0 < kn := by omega
  have HM := Lib.hid hm
  have HF1 := Lib.hid f1
  have HF2 := Lib.hid f2
  have zd : ¬ 9223372036854775807 < 1 + (P1 ++ ⟨#[46]⟩ ++ P2).size := by rw [ByteArray.size_append, ByteArray.size_append]; show ¬ _ < 1 + (P1.size + 1 + P2.size); omega
  obtain ⟨FN, hFN⟩ : ∃ FN, P1 ++ ⟨#[46]⟩ ++ P2 = FN := ⟨_, rfl⟩
  rw [hFN] at hfin zd
  have HFN := Lib.hid hFN
  clear f1 f2 hm hP1 hP2 hmn hFN
  have HFI := Lib.hid hfin
  have HRES := Lib.hid hres
  have h1x : (D1.size : Int) ≤ 40 := by omega
  have h0x : (D0.size : Int) ≤ 20 := by omega
  subst hD1
  clear h hE hx hN hD0 h0l h0s hres hfin h1l h1s hdl hng hNN hk0
  go_enter Tryz.func9, Tryz.ntmps9
  go_wp2_with fail
  refine (fits_any k _ true false xv xs _ _ H.out).mono ?_
  rintro e w1 ⟨rfl, c1⟩
  have C1 := Lib.hid ((below2 w (.cells #[.bool false, .int .i64 xv, .string xs] 23) (.cells #[.int .i64 k, .int .i64 kn] 25)).trans (c1.mono (by simp; omega)))
  have q0 : w1.cell? ⟨w.heap.size, 0, none⟩ = some (.bool false) := cell_later c1 (by simp)
  have q1 : w1.cell? ⟨w.heap.size, 1, none⟩ = some (.int .i64 xv) := cell_later c1 (by simp)
  have q3 : w1.cell? ⟨w.heap.size + 1, 0, none⟩ = some (.int .i64 k) := cell_later c1 (by simp)
  have q4 : w1.cell? ⟨w.heap.size + 1, 1, none⟩ = some (.int .i64 kn) := cell_later c1 (by simp)
  clear c1
  go_wp2_with fail
  refine (HW.out _).mono ?_
  rintro e w2 ⟨rfl, c2⟩
  have C2 := Lib.hid ((C1.out.trans (c2.mono C1.out.size)).alloc (Nat.le_trans C1.out.size c2.size) (.cells #[.bool false, .int .u64 0, .int .u64 N] 52))
  have q5 : (w2.alloc (.cells #[.bool false, .int .u64 0, .int .u64 N] 52)).cell? ⟨w.heap.size + 1, 1, none⟩ = some (.int .i64 kn) := cell_later ((Below.refl _ _).alloc (Nat.le_refl _) _) (cell_later c2 q4)
  have q6 : (w2.alloc (.cells #[.bool false, .int .u64 0, .int .u64 N] 52)).cell? ⟨w2.heap.size, 0, none⟩ = some (.bool false) := by simp
  have q7 : (w2.alloc (.cells #[.bool false, .int .u64 0, .int .u64 N] 52)).cell? ⟨w2.heap.size, 2, none⟩ = some (.int .u64 N) := by simp
  clear c2 q0 q1 q3 q4
  go_upto_region 10 with fail
  obtain ⟨T, hT⟩ : ∃ T, w2.heap.size = T := ⟨_, rfl⟩
  obtain ⟨W2, hW2⟩ : ∃ W2, w2.alloc (.cells #[.bool false, .int .u64 0, .int .u64 N] 52) = W2 := ⟨_, rfl⟩
  rw [hW2] at C2 q5 q6 q7
  rw [hT] at q6 q7
  rw [hW2]
  (try rw [hT])
  clear hT hW2
  go_wp2_with fail
  refine (HFU.out _ (HE.out.later C2.out).1).mono ?_
  rintro e w3 ⟨rfl, c3⟩
  rw [HD0.out]
  have C3 := Lib.hid (C2.out.trans (c3.mono C2.out.size))
  have u5 := cell_later c3 q5
  have u6 := cell_later c3 q6
  clear c3 q5 q6 q7
  have hm9 := HM.out
  go_wp2_with fail
  have f1 := HF1.out
  have f2 := HF2.out
  go_quiet (fail)
  have hfn9 := HFN.out
  go_wp2_with fail
  go_ret2
  exact tx_some (by rw [HRES.out, ← HFI.out, ← HFN.out]; rfl) (C3.out.trans ⟨rfl, rfl, rfl, Nat.le_refl _, fun _ _ => rfl⟩)
set_option maxRecDepth 100000 in
set_option maxHeartbeats 2000000 in
theorem tn_011 (xv : Int) (hx : I64 xv) (xs : ByteArray) (k : Int) (kn : Nat) (hk9 : kn ≤ 9) (w : World) (hE : VEnv w) (h : fitsB ⟨k, kn⟩ true ⟨false, xv, xs⟩ = true) (e4 : (k == 4) = false) (e3 : (k == 3) = false) (hp : kn + 1 ≤ (decDigits xv.natAbs).length) (hk0 : 0 < kn) (hng : xv < 0) : Calls Tryz.prog 9 #[.agg #[.bool false, .int .i64 xv, .string xs], .agg #[.int .i64 k, .int .i64 kn]] w (TxS w (some (decT xv kn))) := by
  have H := Lib.hid h
  have HE := Lib.hid hE
  have HW := Lib.hid (fun W => widen_any xv hx W)
  have hN := i64_abs hx
  rw [show decide (xv < 0) = true from decide_eq_true hng] at HW
  have hres : decT xv kn = signL true (pointL (digitsL xv.natAbs (kn + 1)) kn) := by unfold decT; rw [show decide (xv < 0) = true from decide_eq_true hng]
  have hdl := digits_len xv.natAbs (kn + 1)
  obtain ⟨N, hNN⟩ : ∃ N, xv.natAbs = N := ⟨_, rfl⟩
  rw [hNN] at HW hN hres hp hdl
  have hl20 := dec_len20 N hN
  have hl1 := dec_pos N
  have HFU := Lib.hid (fun W hT => fu_any N hN W hT)
  obtain ⟨D0, hD0⟩ : ∃ D0 : ByteArray, (⟨(decDigits N).toArray⟩ : ByteArray) = D0 := ⟨_, rfl⟩
  have h0l : D0.data.toList = decDigits N := by rw [← hD0]
  have h0s : D0.size = (decDigits N).length := by rw [← hD0, size_mk]
  rw [← h0s] at hp hl20 hl1
  have HD0 := Lib.hid hD0
  obtain ⟨D1, hD1⟩ : ∃ D1, D0 = D1 := ⟨_, rfl⟩
  have h1l : D1.data.toList = digitsL N (kn + 1) := by rw [← hD1, h0l]; exact (dig_same (by omega)).symm
  have dc : decide (0 < (kn : Int) + 1 - (D0.size : Int)) = false := decide_eq_false (by omega)
  have h1s : D1.size = (digitsL N (kn + 1)).length := by rw [← h1l]; rw [Array.length_toList]; rfl
  have h1b : D1.size ≤ 40 := by rw [← hD1]; omega
  rw [← h1s] at hdl
  obtain ⟨m, hm⟩ : ∃ m : Nat, (D1.size : Int) - (kn : Int) = (m : Int) := ⟨D1.size - kn, by omega⟩
  have hmn : m = D1.size - kn := by omega
  have f1 : ∀ W : World, (Instr.slice 9 (.string D1) none (some (.int .i64 (m : Int))) none).run Tryz.prog W = .ok (.string (D1.extract 0 m)) W := fun W => run_slice_string_h W _ D1 Tryz.underlying9 .i64 (m : Int) (by omega) (by omega)
  have f2 : ∀ W : World, (Instr.slice 9 (.string D1) (some (.int .i64 (m : Int))) none none).run Tryz.prog W = .ok (.string (D1.extract m D1.size)) W := fun W => run_slice_string_l W _ D1 Tryz.underlying9 .i64 (m : Int) (by omega) (by omega)
  obtain ⟨P1, hP1⟩ : ∃ P1, D1.extract 0 m = P1 := ⟨_, rfl⟩
  obtain ⟨P2, hP2⟩ : ∃ P2, D1.extract m D1.size = P2 := ⟨_, rfl⟩
  have p1s : P1.size ≤ 40 := by rw [← hP1, ByteArray.size_extract]; omega
  have p2s : P2.size ≤ 40 := by rw [← hP2, ByteArray.size_extract]; omega
  rw [hP1] at f1
  rw [hP2] at f2
  have zb : ¬ 9223372036854775807 < P1.size + 1 := by omega
  have zc : ¬ 9223372036854775807 < P1.size + 1 + P2.size := by omega
  have hfin : (P1 ++ ⟨#[46]⟩ ++ P2).data.toList = pointL (digitsL N (kn + 1)) kn := by
    rw [← hP1, ← hP2, ByteArray.data_append, ByteArray.data_append, Array.toList_append, Array.toList_append, list_take, list_drop, h1l]
    unfold pointL
    rw [if_neg (by omega), hmn, h1s]
    simp
  have dk : decide (0 < (kn : Int)) = true := decide_eq_true (by omega)
  have dk2 : 0 < kn := by omega
  have HM := Lib.hid hm
  have HF1 := Lib.hid f1
  have HF2 := Lib.hid f2
  have zd : ¬ 9223372036854775807 < 1 + (P1 ++ ⟨#[46]⟩ ++ P2).size := by rw [ByteArray.size_append, ByteArray.size_append]; show ¬ _ < 1 + (P1.size + 1 + P2.size); omega
  obtain ⟨FN, hFN⟩ : ∃ FN, P1 ++ ⟨#[46]⟩ ++ P2 = FN := ⟨_, rfl⟩
  rw [hFN] at hfin zd
  have HFN := Lib.hid hFN
  clear f1 f2 hm hP1 hP2 hmn hFN
  have HFI := Lib.hid hfin
  have HRES := Lib.hid hres
  have h1x : (D1.size : Int) ≤ 40 := by omega
  have h0x : (D0.size : Int) ≤ 20 := by omega
  subst hD1
  clear h hE hx hN hD0 h0l h0s hres hfin h1l h1s hdl hng hNN hk0
  go_enter Tryz.func9, Tryz.ntmps9
  go_wp2_with fail
  refine (fits_any k _ true false xv xs _ _ H.out).mono ?_
  rintro e w1 ⟨rfl, c1⟩
  have C1 := Lib.hid ((below2 w (.cells #[.bool false, .int .i64 xv, .string xs] 23) (.cells #[.int .i64 k, .int .i64 kn] 25)).trans (c1.mono (by simp; omega)))
  have q0 : w1.cell? ⟨w.heap.size, 0, none⟩ = some (.bool false) := cell_later c1 (by simp)
  have q1 : w1.cell? ⟨w.heap.size, 1, none⟩ = some (.int .i64 xv) := cell_later c1 (by simp)
  have q3 : w1.cell? ⟨w.heap.size + 1, 0, none⟩ = some (.int .i64 k) := cell_later c1 (by simp)
  have q4 : w1.cell? ⟨w.heap.size + 1, 1, none⟩ = some (.int .i64 kn) := cell_later c1 (by simp)
  clear c1
  go_wp2_with fail
  refine (HW.out _).mono ?_
  rintro e w2 ⟨rfl, c2⟩
  have C2 := Lib.hid ((C1.out.trans (c2.mono C1.out.size)).alloc (Nat.le_trans C1.out.size c2.size) (.cells #[.bool true, .int .u64 0, .int .u64 N] 52))
  have q5 : (w2.alloc (.cells #[.bool true, .int .u64 0, .int .u64 N] 52)).cell? ⟨w.heap.size + 1, 1, none⟩ = some (.int .i64 kn) := cell_later ((Below.refl _ _).alloc (Nat.le_refl _) _) (cell_later c2 q4)
  have q6 : (w2.alloc (.cells #[.bool true, .int .u64 0, .int .u64 N] 52)).cell? ⟨w2.heap.size, 0, none⟩ = some (.bool true) := by simp
  have q7 : (w2.alloc (.cells #[.bool true, .int .u64 0, .int .u64 N] 52)).cell? ⟨w2.heap.size, 2, none⟩ = some (.int .u64 N) := by simp
  clear c2 q0 q1 q3 q4
  go_upto_region 10 with fail
  obtain ⟨T, hT⟩ : ∃ T, w2.heap.size = T := ⟨_, rfl⟩
  obtain ⟨W2, hW2⟩ : ∃ W2, w2.alloc (.cells #[.bool true, .int .u64 0, .int .u64 N] 52) = W2 := ⟨_, rfl⟩
  rw [hW2] at C2 q5 q6 q7
  rw [hT] at q6 q7
  rw [hW2]
  (try rw [hT])
  clear hT hW2
  go_wp2_with fail
  refine (HFU.out _ (HE.out.later C2.out).1).mono ?_
  rintro e w3 ⟨rfl, c3⟩
  rw [HD0.out]
  have C3 := Lib.hid (C2.out.trans (c3.mono C2.out.size))
  have u5 := cell_later c3 q5
  have u6 := cell_later c3 q6
  clear c3 q5 q6 q7
  have hm9 := HM.out
  go_wp2_with fail
  have f1 := HF1.out
  have f2 := HF2.out
  go_quiet (fail)
  have hfn9 := HFN.out
  go_wp2_with fail
  go_ret2
  exact tx_some (by rw [HRES.out, ← HFI.out]; unfold signL; simp [ByteArray.data_append]) (C3.out.trans ⟨rfl, rfl, rfl, Nat.le_refl _, fun _ _ => rfl⟩)
set_option maxRecDepth 100000 in
set_option maxHeartbeats 2000000 in
theorem tn_110 (xv : Int) (hx : I64 xv) (xs : ByteArray) (k : Int) (kn : Nat) (hk9 : kn ≤ 9) (w : World) (hE : VEnv w) (h : fitsB ⟨k, kn⟩ true ⟨false, xv, xs⟩ = true) (e4 : (k == 4) = false) (e3 : (k == 3) = false) (hp : (decDigits xv.natAbs).length < kn + 1) (hk0 : 0 < kn) (hng : ¬ xv < 0) : Calls Tryz.prog 9 #[.agg #[.bool false, .int .i64 xv, .string xs], .agg #[.int .i64 k, .int .i64 kn]] w (TxS w (some (decT xv kn))) := by
  have H := Lib.hid h
  have HE := Lib.hid hE
  have HW := Lib.hid (fun W => widen_any xv hx W)
  have hN := i64_abs hx
  rw [show decide (xv < 0) = false from decide_eq_false hng] at HW
  have hres : decT xv kn = signL false (pointL (digitsL xv.natAbs (kn + 1)) kn) := by unfold decT; rw [show decide (xv < 0) = false from decide_eq_false hng]
  have hdl := digits_len xv.natAbs (kn + 1)
  obtain ⟨N, hNN⟩ : ∃ N, xv.natAbs = N := ⟨_, rfl⟩
  rw [hNN] at HW hN hres hp hdl
  have hl20 := dec_len20 N hN
  have hl1 := dec_pos N
  have HFU := Lib.hid (fun W hT => fu_any N hN W hT)
  obtain ⟨D0, hD0⟩ : ∃ D0 : ByteArray, (⟨(decDigits N).toArray⟩ : ByteArray) = D0 := ⟨_, rfl⟩
  have h0l : D0.data.toList = decDigits N := by rw [← hD0]
  have h0s : D0.size = (decDigits N).length := by rw [← hD0, size_mk]
  rw [← h0s] at hp hl20 hl1
  have HD0 := Lib.hid hD0
  obtain ⟨c, hc⟩ : ∃ c : Nat, (kn : Int) + 1 - (D0.size : Int) = (c : Int) := ⟨kn + 1 - D0.size, by omega⟩
  have hcn : c = kn + 1 - D0.size := by omega
  have hc1 : 0 < c := by omega
  have HRP := Lib.hid (fun W => Tryz.strings_Repeat ⟨#[48]⟩ c W (by omega) (by show 1 * c ≤ _; omega))
  rw [show Lib.repeatL (⟨#[48]⟩ : ByteArray).data.toList c = List.replicate c 48 from repeat_rep c] at HRP
  obtain ⟨RR, hRR⟩ : ∃ RR : ByteArray, (⟨(List.replicate c (48 : UInt8)).toArray⟩ : ByteArray) = RR := ⟨_, rfl⟩
  rw [hRR] at HRP
  have hrs : RR.size = c := by rw [← hRR, size_mk, List.length_replicate]
  have hrl : RR.data.toList = List.replicate c 48 := by rw [← hRR]
  have za : ¬ 9223372036854775807 < RR.size + D0.size := by omega
  obtain ⟨D1, hD1⟩ : ∃ D1, RR ++ D0 = D1 := ⟨_, rfl⟩
  have h1l : D1.data.toList = digitsL N (kn + 1) := by rw [← hD1, ByteArray.data_append, Array.toList_append, hrl, h0l]; unfold digitsL; rw [hcn, h0s]
  have HC := Lib.hid hc
  have HRS := Lib.hid hrs
  have dc : decide (0 < (c : Int)) = true := decide_eq_true (by omega)
  have h1s : D1.size = (digitsL N (kn + 1)).length := by rw [← h1l]; rw [Array.length_toList]; rfl
  have h1b : D1.size ≤ 40 := by rw [← hD1]; rw [ByteArray.size_append]; omega
  rw [← h1s] at hdl
  obtain ⟨m, hm⟩ : ∃ m : Nat, (D1.size : Int) - (kn : Int) = (m : Int) := ⟨D1.size - kn, by omega⟩
  have hmn : m = D1.size - kn := by omega
  have f1 : ∀ W : World, (Instr.slice 9 (.string D1) none (some (.int .i64 (m : Int))) none).run Tryz.prog W = .ok (.string (D1.extract 0 m)) W := fun W => run_slice_string_h W _ D1 Tryz.underlying9 .i64 (m : Int) (by omega) (by omega)
  have f2 : ∀ W : World, (Instr.slice 9 (.string D1) (some (.int .i64 (m : Int))) none none).run Tryz.prog W = .ok (.string (D1.extract m D1.size)) W := fun W => run_slice_string_l W _ D1 Tryz.underlying9 .i64 (m : Int) (by omega) (by omega)
  obtain ⟨P1, hP1⟩ : ∃ P1, D1.extract 0 m = P1 := ⟨_, rfl⟩
  obtain ⟨P2, hP2⟩ : ∃ P2, D1.extract m D1.size = P2 := ⟨_, rfl⟩
  have p1s : P1.size ≤ 40 := by rw [← hP1, ByteArray.size_extract]; omega
  have p2s : P2.size ≤ 40 := by rw [← hP2, ByteArray.size_extract]; omega
  rw [hP1] at f1
  rw [hP2] at f2
  have zb : ¬ 9223372036854775807 < P1.size + 1 := by omega
  have zc : ¬ 9223372036854775807 < P1.size + 1 + P2.size := by omega
  have hfin : (P1 ++ ⟨#[46]⟩ ++ P2).data.toList = pointL (digitsL N (kn + 1)) kn := by
    rw [← hP1, ← hP2, ByteArray.data_append, ByteArray.data_append, Array.toList_append, Array.toList_append, list_take, list_drop, h1l]
    unfold pointL
    rw [if_neg (by omega), hmn, h1s]
    simp
  have dk : decide (0 < (kn : Int)) = true := decide_eq_true (by omega)
  have dk2 : 0 < kn := by omega
  have HM := Lib.hid hm
  have HF1 := Lib.hid f1
  have HF2 := Lib.hid f2
  have zd : ¬ 9223372036854775807 < 1 + (P1 ++ ⟨#[46]⟩ ++ P2).size := by rw [ByteArray.size_append, ByteArray.size_append]; show ¬ _ < 1 + (P1.size + 1 + P2.size); omega
  obtain ⟨FN, hFN⟩ : ∃ FN, P1 ++ ⟨#[46]⟩ ++ P2 = FN := ⟨_, rfl⟩
  rw [hFN] at hfin zd
  have HFN := Lib.hid hFN
  clear f1 f2 hm hP1 hP2 hmn hFN
  have HFI := Lib.hid hfin
  have HRES := Lib.hid hres
  have h1x : (D1.size : Int) ≤ 40 := by omega
  have h0x : (D0.size : Int) ≤ 20 := by omega
  have HD1 := Lib.hid hD1
  clear h hE hx hN hD0 h0l h0s hres hfin h1l h1s hD1 hdl hng hNN hk0 hc hcn hRR hrs hrl
  go_enter Tryz.func9, Tryz.ntmps9
  go_wp2_with fail
  refine (fits_any k _ true false xv xs _ _ H.out).mono ?_
  rintro e w1 ⟨rfl, c1⟩
  have C1 := Lib.hid ((below2 w (.cells #[.bool false, .int .i64 xv, .string xs] 23) (.cells #[.int .i64 k, .int .i64 kn] 25)).trans (c1.mono (by simp; omega)))
  have q0 : w1.cell? ⟨w.heap.size, 0, none⟩ = some (.bool false) := cell_later c1 (by simp)
  have q1 : w1.cell? ⟨w.heap.size, 1, none⟩ = some (.int .i64 xv) := cell_later c1 (by simp)
  have q3 : w1.cell? ⟨w.heap.size + 1, 0, none⟩ = some (.int .i64 k) := cell_later c1 (by simp)
  have q4 : w1.cell? ⟨w.heap.size + 1, 1, none⟩ = some (.int .i64 kn) := cell_later c1 (by simp)
  clear c1
  go_wp2_with fail
  refine (HW.out _).mono ?_
  rintro e w2 ⟨rfl, c2⟩
  have C2 := Lib.hid ((C1.out.trans (c2.mono C1.out.size)).alloc (Nat.le_trans C1.out.size c2.size) (.cells #[.bool false, .int .u64 0, .int .u64 N] 52))
  have q5 : (w2.alloc (.cells #[.bool false, .int .u64 0, .int .u64 N] 52)).cell? ⟨w.heap.size + 1, 1, none⟩ = some (.int .i64 kn) := cell_later ((Below.refl _ _).alloc (Nat.le_refl _) _) (cell_later c2 q4)
  have q6 : (w2.alloc (.cells #[.bool false, .int .u64 0, .int .u64 N] 52)).cell? ⟨w2.heap.size, 0, none⟩ = some (.bool false) := by simp
  have q7 : (w2.alloc (.cells #[.bool false, .int .u64 0, .int .u64 N] 52)).cell? ⟨w2.heap.size, 2, none⟩ = some (.int .u64 N) := by simp
  clear c2 q0 q1 q3 q4
  go_upto_region 10 with fail
  obtain ⟨T, hT⟩ : ∃ T, w2.heap.size = T := ⟨_, rfl⟩
  obtain ⟨W2, hW2⟩ : ∃ W2, w2.alloc (.cells #[.bool false, .int .u64 0, .int .u64 N] 52) = W2 := ⟨_, rfl⟩
  rw [hW2] at C2 q5 q6 q7
  rw [hT] at q6 q7
  rw [hW2]
  (try rw [hT])
  clear hT hW2
  go_wp2_with fail
  refine (HFU.out _ (HE.out.later C2.out).1).mono ?_
  rintro e w3 ⟨rfl, c3⟩
  rw [HD0.out]
  have C3 := Lib.hid (C2.out.trans (c3.mono C2.out.size))
  have u5 := cell_later c3 q5
  have u6 := cell_later c3 q6
  clear c3 q5 q6 q7
  have hc9 := HC.out
  go_wp2_with fail
  refine (HRP.out _).mono ?_
  rintro e w4 ⟨rfl, c4⟩
  have C3 := Lib.hid (C3.out.trans (c4.mono C3.out.size))
  have v5 := cell_later c4 u5
  have v6 := cell_later c4 u6
  clear c4 u5 u6 hc9
  have hd9 := HD1.out
  have hm9 := HM.out
  go_wp2_with fail
  have f1 := HF1.out
  have f2 := HF2.out
  go_quiet (fail)
  have hfn9 := HFN.out
  go_wp2_with fail
  go_ret2
  exact tx_some (by rw [HRES.out, ← HFI.out, ← HFN.out]; rfl) (C3.out.trans ⟨rfl, rfl, rfl, Nat.le_refl _, fun _ _ => rfl⟩)
set_option maxRecDepth 100000 in
set_option maxHeartbeats 2000000 in
theorem tn_111 (xv : Int) (hx : I64 xv) (xs : ByteArray) (k : Int) (kn : Nat) (hk9 : kn ≤ 9) (w : World) (hE : VEnv w) (h : fitsB ⟨k, kn⟩ true ⟨false, xv, xs⟩ = true) (e4 : (k == 4) = false) (e3 : (k == 3) = false) (hp : (decDigits xv.natAbs).length < kn + 1) (hk0 : 0 < kn) (hng : xv < 0) : Calls Tryz.prog 9 #[.agg #[.bool false, .int .i64 xv, .string xs], .agg #[.int .i64 k, .int .i64 kn]] w (TxS w (some (decT xv kn))) := by
  have H := Lib.hid h
  have HE := Lib.hid hE
  have HW := Lib.hid (fun W => widen_any xv hx W)
  have hN := i64_abs hx
  rw [show decide (xv < 0) = true from decide_eq_true hng] at HW
  have hres : decT xv kn = signL true (pointL (digitsL xv.natAbs (kn + 1)) kn) := by unfold decT; rw [show decide (xv < 0) = true from decide_eq_true hng]
  have hdl := digits_len xv.natAbs (kn + 1)
  obtain ⟨N, hNN⟩ : ∃ N, xv.natAbs = N := ⟨_, rfl⟩
  rw [hNN] at HW hN hres hp hdl
  have hl20 := dec_len20 N hN
  have hl1 := dec_pos N
  have HFU := Lib.hid (fun W hT => fu_any N hN W hT)
  obtain ⟨D0, hD0⟩ : ∃ D0 : ByteArray, (⟨(decDigits N).toArray⟩ : ByteArray) = D0 := ⟨_, rfl⟩
  have h0l : D0.data.toList = decDigits N := by rw [← hD0]
  have h0s : D0.size = (decDigits N).length := by rw [← hD0, size_mk]
  rw [← h0s] at hp hl20 hl1
  have HD0 := Lib.hid hD0
  obtain ⟨c, hc⟩ : ∃ c : Nat, (kn : Int) + 1 - (D0.size : Int) = (c : Int) := ⟨kn + 1 - D0.size, by omega⟩
  have hcn : c = kn + 1 - D0.size := by omega
  have hc1 : 0 < c := by omega
  have HRP := Lib.hid (fun W => Tryz.strings_Repeat ⟨#[48]⟩ c W (by omega) (by show 1 * c ≤ _; omega))
  rw [show Lib.repeatL (⟨#[48]⟩ : ByteArray).data.toList c = List.replicate c 48 from repeat_rep c] at HRP
  obtain ⟨RR, hRR⟩ : ∃ RR : ByteArray, (⟨(List.replicate c (48 : UInt8)).toArray⟩ : ByteArray) = RR := ⟨_, rfl⟩
  rw [hRR] at HRP
  have hrs : RR.size = c := by rw [← hRR, size_mk, List.length_replicate]
  have hrl : RR.data.toList = List.replicate c 48 := by rw [← hRR]
  have za : ¬ 9223372036854775807 < RR.size + D0.size := by omega
  obtain ⟨D1, hD1⟩ : ∃ D1, RR ++ D0 = D1 := ⟨_, rfl⟩
  have h1l : D1.data.toList = digitsL N (kn + 1) := by rw [← hD1, ByteArray.data_append, Array.toList_append, hrl, h0l]; unfold digitsL; rw [hcn, h0s]
  have HC := Lib.hid hc
  have HRS := Lib.hid hrs
  have dc : decide (0 < (c : Int)) = true := decide_eq_true (by omega)
  have h1s : D1.size = (digitsL N (kn + 1)).length := by rw [← h1l]; rw [Array.length_toList]; rfl
  have h1b : D1.size ≤ 40 := by rw [← hD1]; rw [ByteArray.size_append]; omega
  rw [← h1s] at hdl
  obtain ⟨m, hm⟩ : ∃ m : Nat, (D1.size : Int) - (kn : Int) = (m : Int) := ⟨D1.size - kn, by omega⟩
  have hmn : m = D1.size - kn := by omega
  have f1 : ∀ W : World, (Instr.slice 9 (.string D1) none (some (.int .i64 (m : Int))) none).run Tryz.prog W = .ok (.string (D1.extract 0 m)) W := fun W => run_slice_string_h W _ D1 Tryz.underlying9 .i64 (m : Int) (by omega) (by omega)
  have f2 : ∀ W : World, (Instr.slice 9 (.string D1) (some (.int .i64 (m : Int))) none none).run Tryz.prog W = .ok (.string (D1.extract m D1.size)) W := fun W => run_slice_string_l W _ D1 Tryz.underlying9 .i64 (m : Int) (by omega) (by omega)
  obtain ⟨P1, hP1⟩ : ∃ P1, D1.extract 0 m = P1 := ⟨_, rfl⟩
  obtain ⟨P2, hP2⟩ : ∃ P2, D1.extract m D1.size = P2 := ⟨_, rfl⟩
  have p1s : P1.size ≤ 40 := by rw [← hP1, ByteArray.size_extract]; omega
  have p2s : P2.size ≤ 40 := by rw [← hP2, ByteArray.size_extract]; omega
  rw [hP1] at f1
  rw [hP2] at f2
  have zb : ¬ 9223372036854775807 < P1.size + 1 := by omega
  have zc : ¬ 9223372036854775807 < P1.size + 1 + P2.size := by omega
  have hfin : (P1 ++ ⟨#[46]⟩ ++ P2).data.toList = pointL (digitsL N (kn + 1)) kn := by
    rw [← hP1, ← hP2, ByteArray.data_append, ByteArray.data_append, Array.toList_append, Array.toList_append, list_take, list_drop, h1l]
    unfold pointL
    rw [if_neg (by omega), hmn, h1s]
    simp
  have dk : decide (0 < (kn : Int)) = true := decide_eq_true (by omega)
  have dk2 : 0 < kn := by omega
  have HM := Lib.hid hm
  have HF1 := Lib.hid f1
  have HF2 := Lib.hid f2
  have zd : ¬ 9223372036854775807 < 1 + (P1 ++ ⟨#[46]⟩ ++ P2).size := by rw [ByteArray.size_append, ByteArray.size_append]; show ¬ _ < 1 + (P1.size + 1 + P2.size); omega
  obtain ⟨FN, hFN⟩ : ∃ FN, P1 ++ ⟨#[46]⟩ ++ P2 = FN := ⟨_, rfl⟩
  rw [hFN] at hfin zd
  have HFN := Lib.hid hFN
  clear f1 f2 hm hP1 hP2 hmn hFN
  have HFI := Lib.hid hfin
  have HRES := Lib.hid hres
  have h1x : (D1.size : Int) ≤ 40 := by omega
  have h0x : (D0.size : Int) ≤ 20 := by omega
  have HD1 := Lib.hid hD1
  clear h hE hx hN hD0 h0l h0s hres hfin h1l h1s hD1 hdl hng hNN hk0 hc hcn hRR hrs hrl
  go_enter Tryz.func9, Tryz.ntmps9
  go_wp2_with fail
  refine (fits_any k _ true false xv xs _ _ H.out).mono ?_
  rintro e w1 ⟨rfl, c1⟩
  have C1 := Lib.hid ((below2 w (.cells #[.bool false, .int .i64 xv, .string xs] 23) (.cells #[.int .i64 k, .int .i64 kn] 25)).trans (c1.mono (by simp; omega)))
  have q0 : w1.cell? ⟨w.heap.size, 0, none⟩ = some (.bool false) := cell_later c1 (by simp)
  have q1 : w1.cell? ⟨w.heap.size, 1, none⟩ = some (.int .i64 xv) := cell_later c1 (by simp)
  have q3 : w1.cell? ⟨w.heap.size + 1, 0, none⟩ = some (.int .i64 k) := cell_later c1 (by simp)
  have q4 : w1.cell? ⟨w.heap.size + 1, 1, none⟩ = some (.int .i64 kn) := cell_later c1 (by simp)
  clear c1
  go_wp2_with fail
  refine (HW.out _).mono ?_
  rintro e w2 ⟨rfl, c2⟩
  have C2 := Lib.hid ((C1.out.trans (c2.mono C1.out.size)).alloc (Nat.le_trans C1.out.size c2.size) (.cells #[.bool true, .int .u64 0, .int .u64 N] 52))
  have q5 : (w2.alloc (.cells #[.bool true, .int .u64 0, .int .u64 N] 52)).cell? ⟨w.heap.size + 1, 1, none⟩ = some (.int .i64 kn) := cell_later ((Below.refl _ _).alloc (Nat.le_refl _) _) (cell_later c2 q4)
  have q6 : (w2.alloc (.cells #[.bool true, .int .u64 0, .int .u64 N] 52)).cell? ⟨w2.heap.size, 0, none⟩ = some (.bool true) := by simp
  have q7 : (w2.alloc (.cells #[.bool true, .int .u64 0, .int .u64 N] 52)).cell? ⟨w2.heap.size, 2, none⟩ = some (.int .u64 N) := by simp
  clear c2 q0 q1 q3 q4
  go_upto_region 10 with fail
  obtain ⟨T, hT⟩ : ∃ T, w2.heap.size = T := ⟨_, rfl⟩
  obtain ⟨W2, hW2⟩ : ∃ W2, w2.alloc (.cells #[.bool true, .int .u64 0, .int .u64 N] 52) = W2 := ⟨_, rfl⟩
  rw [hW2] at C2 q5 q6 q7
  rw [hT] at q6 q7
  rw [hW2]
  (try rw [hT])
  clear hT hW2
  go_wp2_with fail
  refine (HFU.out _ (HE.out.later C2.out).1).mono ?_
  rintro e w3 ⟨rfl, c3⟩
  rw [HD0.out]
  have C3 := Lib.hid (C2.out.trans (c3.mono C2.out.size))
  have u5 := cell_later c3 q5
  have u6 := cell_later c3 q6
  clear c3 q5 q6 q7
  have hc9 := HC.out
  go_wp2_with fail
  refine (HRP.out _).mono ?_
  rintro e w4 ⟨rfl, c4⟩
  have C3 := Lib.hid (C3.out.trans (c4.mono C3.out.size))
  have v5 := cell_later c4 u5
  have v6 := cell_later c4 u6
  clear c4 u5 u6 hc9
  have hd9 := HD1.out
  have hm9 := HM.out
  go_wp2_with fail
  have f1 := HF1.out
  have f2 := HF2.out
  go_quiet (fail)
  have hfn9 := HFN.out
  go_wp2_with fail
  go_ret2
  exact tx_some (by rw [HRES.out, ← HFI.out]; unfold signL; simp [ByteArray.data_append]) (C3.out.trans ⟨rfl, rfl, rfl, Nat.le_refl _, fun _ _ => rfl⟩)
theorem text_num (xv : Int) (hx : I64 xv) (xs : ByteArray) (k : Int) (kn : Nat) (hk9 : kn ≤ 9) (w : World) (hE : VEnv w) (h : fitsB ⟨k, kn⟩ true ⟨false, xv, xs⟩ = true) (e4 : (k == 4) = false) (e3 : (k == 3) = false) : Calls Tryz.prog 9 #[.agg #[.bool false, .int .i64 xv, .string xs], .agg #[.int .i64 k, .int .i64 kn]] w (TxS w (some (decT xv kn))) := by
  have hp1 := dec_pos xv.natAbs
  by_cases hng : xv < 0
  · by_cases hk0 : kn = 0
    · exact tn_001 xv hx xs k kn hk9 w hE h e4 e3 (by omega) hk0 hng
    · by_cases hp : (decDigits xv.natAbs).length < kn + 1
      · exact tn_111 xv hx xs k kn hk9 w hE h e4 e3 hp (by omega) hng
      · exact tn_011 xv hx xs k kn hk9 w hE h e4 e3 (by omega) (by omega) hng
  · by_cases hk0 : kn = 0
    · exact tn_000 xv hx xs k kn hk9 w hE h e4 e3 (by omega) hk0 hng
    · by_cases hp : (decDigits xv.natAbs).length < kn + 1
      · exact tn_110 xv hx xs k kn hk9 w hE h e4 e3 hp (by omega) hng
      · exact tn_010 xv hx xs k kn hk9 w hE h e4 e3 (by omega) (by omega) hng
theorem text_any (x : Va) (t : Ty) (hx : I64 x.n) (w : World) (hE : VEnv w) (o : Option (List UInt8)) (ho : textP x t = o) : Calls Tryz.prog 9 #[.agg #[.bool x.null, .int .i64 x.n, .string x.s], .agg #[.int .i64 t.kind, .int .i64 t.scale]] w (TxS w o) := by
  obtain ⟨xn, xv, xs⟩ := x
  obtain ⟨k, s⟩ := t
  unfold textP at ho
  cases h : fitsB ⟨k, s⟩ true ⟨xn, xv, xs⟩ with
  | false =>
    rw [h] at ho
    subst ho
    exact text_no xn xv xs k s w h
  | true =>
    rw [h] at ho
    cases xn with
    | true =>
      subst ho
      exact text_null xv xs k s w h
    | false =>
      simp only [Bool.not_true, Bool.false_eq_true, if_false] at ho
      by_cases h4 : k = 4
      · subst h4
        subst ho
        have h9 := text_bool xv xs s w h _ rfl
        cases h1 : (xv == 1)
        · rw [h1, upper_false] at h9
          exact h9
        · rw [h1, upper_true] at h9
          exact h9
      · have e4 : (k == 4) = false := beq_eq_false_iff_ne.2 h4
        rw [e4] at ho
        by_cases h3 : k = 3
        · subst h3
          subst ho
          exact text_bytes xv xs s w hE h
        · have e3 : (k == 3) = false := beq_eq_false_iff_ne.2 h3
          rw [e3] at ho
          subst ho
          have hr : 0 ≤ s ∧ s ≤ 9 := by
            unfold fitsB tyB at h
            simp only [Bool.and_eq_true, Bool.or_eq_true, beq_iff_eq, decide_eq_true_eq] at h
            have := h.1
            omega
          obtain ⟨kn, rfl⟩ : ∃ kn : Nat, s = kn := ⟨s.toNat, by omega⟩
          exact text_num xv hx xs k kn (by omega) w hE h e4 e3
end Go.Proofs.YtekpdcofjhdiiaaGreatDoor.Val
