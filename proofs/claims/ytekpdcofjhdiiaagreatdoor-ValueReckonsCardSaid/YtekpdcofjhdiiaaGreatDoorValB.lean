/-
  Numbers of chapter 10 in 128 bits, and scaled. No condition beyond what each theorem names.
-/
import Derived.Test.YtekpdcofjhdiiaaGreatDoorValA
import Derived.Test.YtekpdcofjhdiiaaGreatDoorShelf
import Derived.LoopTactic
import Derived.Deep.QuietTactic
import Derived.BigQuiet
import Derived.IntWalk
namespace Go.Proofs.YtekpdcofjhdiiaaGreatDoor.Val
open Go.RowKit
set_option linter.unusedVariables false
set_option linter.unusedSimpArgs false
set_option maxRecDepth 100000 in
set_option maxHeartbeats 1000000 in
theorem num_any (k s : Int) (w : World) (b : Bool) (hb : numB ⟨k, s⟩ = b) : Calls Tryz.prog 27 #[.agg #[.int .i64 k, .int .i64 s]] w (BoolS w b) := by
  have HB := Lib.hid hb
  clear hb
  cases ht : tyB ⟨k, s⟩
  · have HT := Lib.hid ht
    obtain rfl : b = false := by rw [← HB.out]; simp [numB, ht]
    clear ht
    go_enter Tryz.func27, Tryz.ntmps27
    go_wp2_with fail
    refine (ty_any _ _ _ _ HT.out).mono ?_
    rintro e w1 ⟨rfl, c1⟩
    have C1 := Lib.hid c1
    clear c1
    go_wp2_with fail
    go_ret
    exact ⟨rfl, (below1 _ _).trans (C1.out.mono (by simp))⟩
  · have HT := Lib.hid ht
    rcases (show k = 1 ∨ k = 2 ∨ (k ≠ 1 ∧ k ≠ 2) by omega) with rfl | rfl | ⟨k1, k2⟩
    · obtain rfl : b = true := by rw [← HB.out]; simp [numB, ht]
      clear ht
      go_enter Tryz.func27, Tryz.ntmps27
      go_wp2_with fail
      refine (ty_any _ _ _ _ HT.out).mono ?_
      rintro e w1 ⟨rfl, c1⟩
      have C1 := Lib.hid c1
      have q0 : w1.cell? ⟨w.heap.size, 0, none⟩ = some (.int .i64 1) := cell_later c1 (by simp)
      clear c1
      go_wp2_with fail
      go_ret
      exact ⟨rfl, (below1 _ _).trans (C1.out.mono (by simp))⟩
    · obtain rfl : b = true := by rw [← HB.out]; simp [numB, ht]
      clear ht
      go_enter Tryz.func27, Tryz.ntmps27
      go_wp2_with fail
      refine (ty_any _ _ _ _ HT.out).mono ?_
      rintro e w1 ⟨rfl, c1⟩
      have C1 := Lib.hid c1
      have q0 : w1.cell? ⟨w.heap.size, 0, none⟩ = some (.int .i64 2) := cell_later c1 (by simp)
      clear c1
      go_wp2_with fail
      go_ret
      exact ⟨rfl, (below1 _ _).trans (C1.out.mono (by simp))⟩
    · obtain rfl : b = false := by rw [← HB.out]; simp [numB, k1, k2]
      have e1 : (k == 1) = false := beq_eq_false_iff_ne.2 k1
      have e2 : (k == 2) = false := beq_eq_false_iff_ne.2 k2
      clear ht k1 k2
      go_enter Tryz.func27, Tryz.ntmps27
      go_wp2_with fail
      refine (ty_any _ _ _ _ HT.out).mono ?_
      rintro e w1 ⟨rfl, c1⟩
      have C1 := Lib.hid c1
      have q0 : w1.cell? ⟨w.heap.size, 0, none⟩ = some (.int .i64 k) := cell_later c1 (by simp)
      clear c1
      go_wp2_with fail
      go_ret
      exact ⟨rfl, (below1 _ _).trans (C1.out.mono (by simp))⟩
set_option maxRecDepth 100000 in
set_option maxHeartbeats 1000000 in
theorem rnum_any (k s : Int) (w : World) : Calls Tryz.prog 35 #[.agg #[.int .i64 k, .int .i64 s]] w (BoolS w (k == 1 || k == 2)) := by
  cases h1 : (k == 1) <;> cases h2 : (k == 2)
  all_goals
    go_enter Tryz.func35, Tryz.ntmps35
    go_wp2_with fail
    go_ret
    exact ⟨by simp, below1 _ _⟩
set_option maxRecDepth 100000 in
set_option maxHeartbeats 1000000 in
theorem ten_any (k : Nat) (hk : k ≤ 9) (w : World) : Calls Tryz.prog 30 #[.int .i64 k] w fun e w' => e = .returned (.int .i64 (ten k)) ∧ w = w' := by
  go_enter Tryz.func30, Tryz.ntmps30
  go_wp2_with fail
  go_loop [3, 5] (fun p i => ∃ j : Nat, j ≤ k ∧ i = .int .i64 j ∧ p = .int .i64 (ten j)) (fun _ i => k - (intOf i).toNat)
  case atStart => exact ⟨0, Nat.zero_le _, rfl, rfl⟩
  case round =>
    obtain ⟨j, hj, rfl, rfl⟩ := hrel
    have HS := Lib.hid (ten_succ j)
    have t1 := ten_pos j
    by_cases hlt : j < k
    · have t2 := ten_le j (by omega)
      obtain ⟨T, hT⟩ : ∃ T, ten j = T := ⟨_, rfl⟩
      have HT := Lib.hid hT
      rw [hT] at t1 t2 ⊢
      have hd : decide (j < k) = true := decide_eq_true hlt
      clear hT
      go_wp2_with fail
      go_round
      case rel => exact ⟨j + 1, by omega, by go_num, by rw [HS.out, HT.out]⟩
      case measure => simp [intOf]; omega
    · obtain rfl : j = k := by omega
      have hd : decide (j < j) = false := by simp
      go_wp2_with fail
      go_ret
      exact ⟨rfl, rfl⟩
theorem res_new {w w1 : World} (b : Below w.heap.size w w1) (cs : Array Value) {T : TypeId} (h : w1.heap.size = w.heap.size + 1 := by simp) : (w1.alloc (.cells cs T)).heap[w.heap.size + 1]? = some (.cells cs T (0, 0)) := by
  have := heap_alloc_new w1 (.cells cs T)
  rw [h] at this
  exact this
def wideV (m : Bool) (h l : Nat) : Value := .agg #[.bool m, .int .u64 h, .int .u64 l]
theorem neg_u64 (n : Int) (hn : I64 n) (h : n < 0) : IntKind.u64.wrap (-IntKind.u64.wrap n) = (n.natAbs : Int) := by
  unfold I64 at hn
  rw [IntKind.wrap_u64, IntKind.wrap_u64]
  omega
theorem pos_u64 (n : Int) (hn : I64 n) (h : ¬ n < 0) : IntKind.u64.wrap n = (n.natAbs : Int) := by
  unfold I64 at hn
  rw [IntKind.wrap_u64]
  omega
def WideS (w : World) (m : Bool) (h l : Nat) (e : Ending) (w' : World) : Prop := e = .returned (.agg #[.bool m, .int .u64 h, .int .u64 l]) ∧ Below w.heap.size w w'
set_option maxRecDepth 100000 in
set_option maxHeartbeats 1000000 in
theorem widen_any (n : Int) (hn : I64 n) (w : World) : Calls Tryz.prog 28 #[.int .i64 n] w (WideS w (decide (n < 0)) 0 n.natAbs) := by
  by_cases h : n < 0
  · have e1 := neg_u64 n hn h
    have d : decide (n < 0) = true := decide_eq_true h
    obtain ⟨N, hN⟩ : ∃ N, n.natAbs = N := ⟨_, rfl⟩
    rw [hN] at e1 ⊢
    rw [d]
    clear hn hN
    go_enter Tryz.func28, Tryz.ntmps28
    go_wp2_with fail
    exact bodyPost_ret (v := .agg #[.bool true, .int .u64 0, .int .u64 N]) (by simp [results, Tryz.results28, go_sem]) rfl ⟨rfl, below1 _ _⟩
  · have e1 := pos_u64 n hn h
    have d : decide (n < 0) = false := decide_eq_false h
    obtain ⟨N, hN⟩ : ∃ N, n.natAbs = N := ⟨_, rfl⟩
    rw [hN] at e1 ⊢
    rw [d]
    clear hn hN
    go_enter Tryz.func28, Tryz.ntmps28
    go_wp2_with fail
    exact bodyPost_ret (v := .agg #[.bool false, .int .u64 0, .int .u64 N]) (by simp [results, Tryz.results28, go_sem]) rfl ⟨rfl, below1 _ _⟩
def TimesS (w : World) (m : Bool) (p : Nat) (e : Ending) (w' : World) : Prop := ∃ h l : Nat, h * 18446744073709551616 + l = p ∧ l < 18446744073709551616 ∧ e = .returned (.agg #[.bool m, .int .u64 h, .int .u64 l]) ∧ Below w.heap.size w w'
set_option maxRecDepth 100000 in
set_option maxHeartbeats 1000000 in
theorem times_any (m : Bool) (g a : Nat) (ha : a < 18446744073709551616) (x : Int) (hx : I64 x) (w : World) : Calls Tryz.prog 29 #[.agg #[.bool m, .int .u64 g, .int .u64 a], .int .i64 x] w (TimesS w (m != decide (x < 0)) (a * x.natAbs)) := by
  have HX := Lib.hid hx
  have hxl : x.natAbs < 18446744073709551616 := by unfold I64 at hx; omega
  obtain ⟨N, hN⟩ : ∃ N, x.natAbs = N := ⟨_, rfl⟩
  rw [hN] at hxl
  have HN := Lib.hid hN
  have HM := Lib.hid (fun W => Tryz.bits_Mul64 a N ha hxl W)
  have h1 : a * N / 18446744073709551616 * 18446744073709551616 + a * N % 18446744073709551616 = a * N := by omega
  have h2 : a * N % 18446744073709551616 < 18446744073709551616 := Nat.mod_lt _ (by decide)
  obtain ⟨H, hH⟩ : ∃ H, a * N / 18446744073709551616 = H := ⟨_, rfl⟩
  obtain ⟨L, hL⟩ : ∃ L, a * N % 18446744073709551616 = L := ⟨_, rfl⟩
  rw [hH, hL] at h1
  rw [hL] at h2
  have HH := Lib.hid hH
  have HL := Lib.hid hL
  have H1 := Lib.hid h1
  have H2 := Lib.hid h2
  obtain ⟨D, hD⟩ : ∃ D, decide (x < 0) = D := ⟨_, rfl⟩
  have HD := Lib.hid hD
  rw [hN, hD]
  clear hN hx h1 h2 hH hL ha hxl hD
  go_enter Tryz.func29, Tryz.ntmps29
  go_wp2_with fail
  refine (widen_any x HX.out _).mono ?_
  rintro e w1 ⟨rfl, c1⟩
  rw [HN.out, HD.out]
  have q0 : w1.cell? ⟨w.heap.size, 0, none⟩ = some (.bool m) := cell_later c1 (by simp)
  have q2 : w1.cell? ⟨w.heap.size, 2, none⟩ = some (.int .u64 a) := cell_later c1 (by simp)
  have C1 := Lib.hid ((below2 w (.cells #[.bool m, .int .u64 g, .int .u64 a] 52) (.cells #[.bool false, .int .u64 0, .int .u64 0] 52)).trans (c1.mono (by simp; omega)))
  have hlt : w.heap.size + 1 < w1.heap.size := by have := c1.size; simp at this; omega
  have hlt0 : w.heap.size < w1.heap.size := by omega
  have hr := (c1.block (w.heap.size + 1) (by simp)).trans (res_new (below1 w (.cells #[.bool m, .int .u64 g, .int .u64 a] 52)) _)
  have p0 := cell_of_row w1 (w.heap.size + 1) 0 _ _ _ hr
  have p1 := cell_of_row w1 (w.heap.size + 1) 1 _ _ _ hr
  have p2 := cell_of_row w1 (w.heap.size + 1) 2 _ _ _ hr
  have fq := fun j => frozen_of_row w1 (w.heap.size + 1) j _ _ hr
  clear hr
  clear c1
  go_wp2_with fail
  refine (HM.out _).mono ?_
  rintro e w2 ⟨rfl, rfl⟩
  rw [HH.out, HL.out]
  go_wp2_with fail
  refine bodyPost_ret (v := .agg #[.bool (m != D), .int .u64 H, .int .u64 L]) (by simp [results, Tryz.results29, go_sem, p0, p1, p2, hlt, bne]) rfl ⟨H, L, H1.out, H2.out, rfl, ?_⟩
  exact (((C1.out.setCell (by simp) _).setCell (by simp) _).setCell (by simp) _).alloc (by have := C1.out.size; simpa [World.setCell] using this) _
theorem wrap_eq (x : Int) : IntKind.i64.wrap x = wrap64 x := by rw [IntKind.wrap_i64]; unfold wrap64; rfl
def NarS (w : World) (z : Int) (e : Ending) (w' : World) : Prop := ∃ v ok, e = .returned (.tuple #[.int .i64 v, .bool ok]) ∧ ok = fits z ∧ (ok = true → v = z) ∧ Below w.heap.size w w'
theorem nar_out {w w' : World} {z v : Int} {ok : Bool} (h1 : ok = fits z) (h2 : ok = true → v = z) (h3 : Below w.heap.size w w') : NarS w z (.returned (.tuple #[.int .i64 v, .bool ok])) w' := ⟨v, ok, rfl, h1, h2, h3⟩
def sgn (m : Bool) (p : Nat) : Int := if m then -(p : Int) else p
theorem sgn_wide {m : Bool} {p : Nat} (h : 18446744073709551616 ≤ p) : fits (sgn m p) = false := by
  cases hf : fits (sgn m p) with
  | false => rfl
  | true =>
    have := fits_iff.1 hf
    unfold I64 sgn at this
    cases m <;> simp at this <;> omega
theorem nar_minus (l : Nat) (hl : l < 18446744073709551616) : decide ((l : Int) ≤ 9223372036854775808) = fits (sgn true l) ∧ (decide ((l : Int) ≤ 9223372036854775808) = true → IntKind.i64.wrap (-IntKind.i64.wrap (l : Int)) = sgn true l) := by
  have hs : sgn true l = -(l : Int) := rfl
  rw [hs]
  constructor
  · rw [Bool.eq_iff_iff, decide_eq_true_eq, fits_iff]; unfold I64; omega
  · intro h
    have := of_decide_eq_true h
    rw [IntKind.wrap_i64, IntKind.wrap_i64]
    omega
theorem nar_plus (l : Nat) (hl : l < 18446744073709551616) : decide ((l : Int) < 9223372036854775808) = fits (sgn false l) ∧ (decide ((l : Int) < 9223372036854775808) = true → IntKind.i64.wrap (l : Int) = sgn false l) := by
  have hs : sgn false l = (l : Int) := rfl
  rw [hs]
  constructor
  · rw [Bool.eq_iff_iff, decide_eq_true_eq, fits_iff]; unfold I64; omega
  · intro h
    have := of_decide_eq_true h
    rw [IntKind.wrap_i64]
    omega
set_option maxRecDepth 100000 in
set_option maxHeartbeats 1000000 in
theorem narrow_any (m : Bool) (h l : Nat) (hl : l < 18446744073709551616) (w : World) : Calls Tryz.prog 48 #[.agg #[.bool m, .int .u64 h, .int .u64 l]] w (NarS w (sgn m (h * 18446744073709551616 + l))) := by
  by_cases hh : h = 0
  · subst hh
    rw [Nat.zero_mul, Nat.zero_add]
    cases m
    · obtain ⟨g1, g2⟩ := nar_plus l hl
      obtain ⟨Z, hZ⟩ : ∃ Z, sgn false l = Z := ⟨_, rfl⟩
      rw [hZ] at g1 g2 ⊢
      obtain ⟨D, hD⟩ : ∃ D, decide ((l : Int) < 9223372036854775808) = D := ⟨_, rfl⟩
      obtain ⟨V, hV⟩ : ∃ V, IntKind.i64.wrap (l : Int) = V := ⟨_, rfl⟩
      rw [hD] at g1 g2
      rw [hV] at g2
      have hV2 : wrap64 (l : Int) = V := by rw [← hV, wrap_eq]
      have G1 := Lib.hid g1
      have G2 := Lib.hid g2
      clear g1 g2 hZ hl
      go_enter Tryz.func48, Tryz.ntmps48
      go_wp2_with fail
      go_quiet (fail)
      go_wp2_with fail
      go_ret2
      exact nar_out G1.out G2.out ((below1 _ _).trans ⟨rfl, rfl, rfl, Nat.le_refl _, fun _ _ => rfl⟩)
    · obtain ⟨g1, g2⟩ := nar_minus l hl
      obtain ⟨Z, hZ⟩ : ∃ Z, sgn true l = Z := ⟨_, rfl⟩
      rw [hZ] at g1 g2 ⊢
      obtain ⟨D, hD⟩ : ∃ D, decide ((l : Int) ≤ 9223372036854775808) = D := ⟨_, rfl⟩
      obtain ⟨V, hV⟩ : ∃ V, IntKind.i64.wrap (-IntKind.i64.wrap (l : Int)) = V := ⟨_, rfl⟩
      rw [hD] at g1 g2
      rw [hV] at g2
      have hV2 : wrap64 (-wrap64 (l : Int)) = V := by rw [← hV, wrap_eq, wrap_eq]
      have HV2 := Lib.hid hV2
      clear hV2 hV
      have G1 := Lib.hid g1
      have G2 := Lib.hid g2
      clear g1 g2 hZ hl
      go_enter Tryz.func48, Tryz.ntmps48
      go_wp2_with fail
      go_quiet (fail)
      go_wp2_with fail
      go_ret2
      exact nar_out G1.out (fun h => HV2.out.trans (G2.out h)) ((below1 _ _).trans ⟨rfl, rfl, rfl, Nat.le_refl _, fun _ _ => rfl⟩)
  · have hz : ((h : Int) == 0) = false := beq_eq_false_iff_ne.2 (by omega)
    have hf := sgn_wide (m := m) (p := h * 18446744073709551616 + l) (by omega)
    obtain ⟨Z, hZ⟩ : ∃ Z, sgn m (h * 18446744073709551616 + l) = Z := ⟨_, rfl⟩
    rw [hZ] at hf ⊢
    have HF := Lib.hid hf
    have hz2 : ((h : Int) != 0) = true := by rw [bne, hz]; rfl
    clear hf hZ hl hh
    go_enter Tryz.func48, Tryz.ntmps48
    go_wp2_with fail
    go_ret2
    exact nar_out HF.out.symm (fun h => by cases h) (below1 _ _)
end Go.Proofs.YtekpdcofjhdiiaaGreatDoor.Val
