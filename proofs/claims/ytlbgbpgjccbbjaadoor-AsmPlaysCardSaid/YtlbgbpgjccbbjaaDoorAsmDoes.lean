/-
  A deed, done on both Builders: both answer the same, and hold the same. No condition beyond what each theorem names.
-/
import Derived.Test.YtlbgbpgjccbbjaaDoorAsmSame
import Derived.Deep.RegionHeld3
namespace Go.Proofs.YtlbgbpgjccbbjaaDoor.Asm
open Go.RowKit Go.Maps Go.Proofs.YtlbgbpgjccbbjaaDoor.Op
set_option linter.unusedVariables false
abbrev HeldD (D : Nat) (kd : Int) (nm lab : ByteArray) (dn dm : Int) (dt : UInt8) (W : World) : Prop := W.cell? ⟨D, 0, none⟩ = some (.int .i64 kd) ∧ W.cell? ⟨D, 1, none⟩ = some (.string nm) ∧ W.cell? ⟨D, 2, none⟩ = some (.string lab) ∧ W.cell? ⟨D, 3, none⟩ = some (.int .i64 dn) ∧ W.cell? ⟨D, 4, none⟩ = some (.int .i64 dm) ∧ W.cell? ⟨D, 5, none⟩ = some (.int .u8 (dt.toNat : Int))
theorem heldD_same {B D : Nat} {kd : Int} {nm lab : ByteArray} {dn dm : Int} {dt : UInt8} {W W' : World} (c : Same B (fun b => b = D) W W') (h : HeldD D kd nm lab dn dm dt W) : HeldD D kd nm lab dn dm dt W' :=
  ⟨c.cell rfl h.1, c.cell rfl h.2.1, c.cell rfl h.2.2.1, c.cell rfl h.2.2.2.1, c.cell rfl h.2.2.2.2.1, c.cell rfl h.2.2.2.2.2⟩
def DoesS (B bb rb n : Nat) (P : ByteArray) (w : World) (e : Ending) (w' : World) : Prop := e = .returned (.bool true) ∧ ∃ s', Pair w' B bb rb P (n + 1) s' s' noK ∧ Below B w w'
theorem does_end {B bb rb n : Nat} {P : ByteArray} {w w' : World} {b : Bool} {s' : St} {K : Nat → Prop} (hb : b = true) (h : Pair w' B bb rb P (n + 1) s' s' K) (hB : Below B w w') : DoesS B bb rb n P w (.returned (.bool b)) w' := by
  subst hb
  exact ⟨rfl, s', h.sub (fun b hb => hb.elim), hB⟩

set_option maxRecDepth 100000 in
set_option maxHeartbeats 4000000 in
theorem does_3_n (kd : Int) (nm lab : ByteArray) (dn dm : Int) (dt : UInt8) (k0 : -9223372036854775808 ≤ kd) (k1 : kd ≤ 9223372036854775807) (k2 : nm.size ≤ maxLen) (hneg : kd < 0) (hr : (-(kd + 1)) % 10 = 3) {w : World} {B bb rb n : Nat} {P : ByteArray} {s : St} (h : Pair w B bb rb P n s s noK) (hn : n < 400000) :
    Calls Tryd.prog 31 #[.pointer (some ⟨bb, 0, none⟩), .pointer (some ⟨rb, 0, none⟩), .agg #[.int .i64 kd, .string nm, .string lab, .int .i64 dn, .int .i64 dm, .int .u8 (dt.toNat : Int)]] w (DoesS B bb rb n P w) := by
  have HFW := Lib.hid (h.few (by omega))
  have B0 : Below w.heap.size w (w.alloc (.cells #[.int .i64 kd, .string nm, .string lab, .int .i64 dn, .int .i64 dm, .int .u8 (dt.toNat : Int)] 63)) := (Below.refl _ _).alloc (Nat.le_refl _) _
  have hp0 : Pair (w.alloc (.cells #[.int .i64 kd, .string nm, .string lab, .int .i64 dn, .int .i64 dm, .int .u8 (dt.toNat : Int)] 63)) B bb rb P n s s (fun b => b = w.heap.size) := (h.alloc (.cells #[.int .i64 kd, .string nm, .string lab, .int .i64 dn, .int .i64 dm, .int .u8 (dt.toNat : Int)] 63)).sub (fun b hb => .inr hb)
  have HB0 := Lib.hid (B0.mono h.env.size)
  have HP00 := Lib.hid hp0
  have HE0 := Lib.hid h.env.size
  clear h hp0 B0
  have hn9 : decide (kd < 0) = true := decide_eq_true hneg
  have hE : -(Int.tmod (kd + 1) 10) = -(kd + 1) % 10 := by rw [← Int.neg_tmod, Int.tmod_eq_emod_of_nonneg (by omega)]
  have t3 : (-(Int.tmod (kd + 1) 10) == 3) = true := by rw [hE]; rw [hr]; rfl
  have t4 : (-(Int.tmod (kd + 1) 10) == 4) = false := by rw [hE]; rw [hr]; rfl
  have t5 : (-(Int.tmod (kd + 1) 10) == 5) = false := by rw [hE]; rw [hr]; rfl
  have t6 : (-(Int.tmod (kd + 1) 10) == 6) = false := by rw [hE]; rw [hr]; rfl
  have t7 : (-(Int.tmod (kd + 1) 10) == 7) = false := by rw [hE]; rw [hr]; rfl
  have t8 : (-(Int.tmod (kd + 1) 10) == 8) = false := by rw [hE]; rw [hr]; rfl
  have t9 : (-(Int.tmod (kd + 1) 10) == 9) = false := by rw [hE]; rw [hr]; rfl
  clear hE hr
  obtain ⟨v, s2, hR⟩ : ∃ v s2, openR s nm.data.toList lab dt = (v, s2) := ⟨_, _, rfl⟩
  have HRR := Lib.hid hR
  clear hR
  go_enter Tryd.func31, Tryd.ntmps31
  go_wp2_with fail
  have hx : HeldD w.heap.size kd nm lab dn dm dt (w.alloc (.cells #[.int .i64 kd, .string nm, .string lab, .int .i64 dn, .int .i64 dm, .int .u8 (dt.toNat : Int)] 63)).drew := ⟨by simp, by simp, by simp, by simp, by simp, by simp⟩
  have HX := Lib.hid hx
  clear hx
  have HP0 := Lib.hid (HP00.out.later (Below.refl _ _).drew)
  have HB1 := Lib.hid HB0.out.drew
  go_region_held3 (fun W => HeldD w.heap.size kd nm lab dn dm dt W) (first | exact k3 (by assumption) | exact k4 (by assumption) | exact HX.out)
    (first
      | (go_at_call 26; refine (p_open HP0.out (by omega) nm lab dt k2 v s2 HRR.out).mono ?_; rintro e W2 ⟨rfl, hP2, hS2⟩; have HP2 := Lib.hid hP2; have HS2 := Lib.hid hS2; have k4 := fun h => heldD_same (kd := kd) (nm := nm) (lab := lab) (dn := dn) (dm := dm) (dt := dt) hS2 h)
      | (go_at_call 44; refine (q_begin HP2.out HFW.out nm lab dt v s2 HRR.out).mono ?_; rintro e W3 ⟨rfl, hP3, hS3⟩; have HP3 := Lib.hid hP3; have HS3 := Lib.hid hS3; have k3 := fun h => heldD_same (kd := kd) (nm := nm) (lab := lab) (dn := dn) (dm := dm) (dt := dt) hS3 h))
  all_goals
    go_wp2_with fail
    go_ret
    exact does_end (by simp) HP3.out (HB1.out.trans (HS2.out.1.trans HS3.out.1))
set_option maxRecDepth 100000 in
set_option maxHeartbeats 4000000 in
theorem does_3_p (kd : Int) (nm lab : ByteArray) (dn dm : Int) (dt : UInt8) (k0 : -9223372036854775808 ≤ kd) (k1 : kd ≤ 9223372036854775807) (k2 : nm.size ≤ maxLen) (hneg : ¬ kd < 0) (hr : kd % 10 = 3) {w : World} {B bb rb n : Nat} {P : ByteArray} {s : St} (h : Pair w B bb rb P n s s noK) (hn : n < 400000) :
    Calls Tryd.prog 31 #[.pointer (some ⟨bb, 0, none⟩), .pointer (some ⟨rb, 0, none⟩), .agg #[.int .i64 kd, .string nm, .string lab, .int .i64 dn, .int .i64 dm, .int .u8 (dt.toNat : Int)]] w (DoesS B bb rb n P w) := by
  have HFW := Lib.hid (h.few (by omega))
  have B0 : Below w.heap.size w (w.alloc (.cells #[.int .i64 kd, .string nm, .string lab, .int .i64 dn, .int .i64 dm, .int .u8 (dt.toNat : Int)] 63)) := (Below.refl _ _).alloc (Nat.le_refl _) _
  have hp0 : Pair (w.alloc (.cells #[.int .i64 kd, .string nm, .string lab, .int .i64 dn, .int .i64 dm, .int .u8 (dt.toNat : Int)] 63)) B bb rb P n s s (fun b => b = w.heap.size) := (h.alloc (.cells #[.int .i64 kd, .string nm, .string lab, .int .i64 dn, .int .i64 dm, .int .u8 (dt.toNat : Int)] 63)).sub (fun b hb => .inr hb)
  have HB0 := Lib.hid (B0.mono h.env.size)
  have HP00 := Lib.hid hp0
  have HE0 := Lib.hid h.env.size
  clear h hp0 B0
  have hn9 : decide (kd < 0) = false := decide_eq_false hneg
  have hp9 : 0 ≤ kd := by omega
  have t3 : (kd % 10 == 3) = true := by rw [hr]; rfl
  have t4 : (kd % 10 == 4) = false := by rw [hr]; rfl
  have t5 : (kd % 10 == 5) = false := by rw [hr]; rfl
  have t6 : (kd % 10 == 6) = false := by rw [hr]; rfl
  have t7 : (kd % 10 == 7) = false := by rw [hr]; rfl
  have t8 : (kd % 10 == 8) = false := by rw [hr]; rfl
  have t9 : (kd % 10 == 9) = false := by rw [hr]; rfl
  clear hr
  obtain ⟨v, s2, hR⟩ : ∃ v s2, openR s nm.data.toList lab dt = (v, s2) := ⟨_, _, rfl⟩
  have HRR := Lib.hid hR
  clear hR
  go_enter Tryd.func31, Tryd.ntmps31
  go_wp2_with fail
  have hx : HeldD w.heap.size kd nm lab dn dm dt (w.alloc (.cells #[.int .i64 kd, .string nm, .string lab, .int .i64 dn, .int .i64 dm, .int .u8 (dt.toNat : Int)] 63)).drew := ⟨by simp, by simp, by simp, by simp, by simp, by simp⟩
  have HX := Lib.hid hx
  clear hx
  have HP0 := Lib.hid (HP00.out.later (Below.refl _ _).drew)
  have HB1 := Lib.hid HB0.out.drew
  go_region_held3 (fun W => HeldD w.heap.size kd nm lab dn dm dt W) (first | exact k3 (by assumption) | exact k4 (by assumption) | exact HX.out)
    (first
      | (go_at_call 26; refine (p_open HP0.out (by omega) nm lab dt k2 v s2 HRR.out).mono ?_; rintro e W2 ⟨rfl, hP2, hS2⟩; have HP2 := Lib.hid hP2; have HS2 := Lib.hid hS2; have k4 := fun h => heldD_same (kd := kd) (nm := nm) (lab := lab) (dn := dn) (dm := dm) (dt := dt) hS2 h)
      | (go_at_call 44; refine (q_begin HP2.out HFW.out nm lab dt v s2 HRR.out).mono ?_; rintro e W3 ⟨rfl, hP3, hS3⟩; have HP3 := Lib.hid hP3; have HS3 := Lib.hid hS3; have k3 := fun h => heldD_same (kd := kd) (nm := nm) (lab := lab) (dn := dn) (dm := dm) (dt := dt) hS3 h))
  all_goals
    go_wp2_with fail
    go_ret
    exact does_end (by simp) HP3.out (HB1.out.trans (HS2.out.1.trans HS3.out.1))
set_option maxRecDepth 100000 in
set_option maxHeartbeats 4000000 in
theorem does_4_n (kd : Int) (nm lab : ByteArray) (dn dm : Int) (dt : UInt8) (k0 : -9223372036854775808 ≤ kd) (k1 : kd ≤ 9223372036854775807) (k2 : nm.size ≤ maxLen) (hneg : kd < 0) (hr : (-(kd + 1)) % 10 = 4) {w : World} {B bb rb n : Nat} {P : ByteArray} {s : St} (h : Pair w B bb rb P n s s noK) (hn : n < 400000) :
    Calls Tryd.prog 31 #[.pointer (some ⟨bb, 0, none⟩), .pointer (some ⟨rb, 0, none⟩), .agg #[.int .i64 kd, .string nm, .string lab, .int .i64 dn, .int .i64 dm, .int .u8 (dt.toNat : Int)]] w (DoesS B bb rb n P w) := by
  have HFW := Lib.hid (h.few (by omega))
  have B0 : Below w.heap.size w (w.alloc (.cells #[.int .i64 kd, .string nm, .string lab, .int .i64 dn, .int .i64 dm, .int .u8 (dt.toNat : Int)] 63)) := (Below.refl _ _).alloc (Nat.le_refl _) _
  have hp0 : Pair (w.alloc (.cells #[.int .i64 kd, .string nm, .string lab, .int .i64 dn, .int .i64 dm, .int .u8 (dt.toNat : Int)] 63)) B bb rb P n s s (fun b => b = w.heap.size) := (h.alloc (.cells #[.int .i64 kd, .string nm, .string lab, .int .i64 dn, .int .i64 dm, .int .u8 (dt.toNat : Int)] 63)).sub (fun b hb => .inr hb)
  have HB0 := Lib.hid (B0.mono h.env.size)
  have HP00 := Lib.hid hp0
  have HE0 := Lib.hid h.env.size
  clear h hp0 B0
  have hn9 : decide (kd < 0) = true := decide_eq_true hneg
  have hE : -(Int.tmod (kd + 1) 10) = -(kd + 1) % 10 := by rw [← Int.neg_tmod, Int.tmod_eq_emod_of_nonneg (by omega)]
  have t3 : (-(Int.tmod (kd + 1) 10) == 3) = false := by rw [hE]; rw [hr]; rfl
  have t4 : (-(Int.tmod (kd + 1) 10) == 4) = true := by rw [hE]; rw [hr]; rfl
  have t5 : (-(Int.tmod (kd + 1) 10) == 5) = false := by rw [hE]; rw [hr]; rfl
  have t6 : (-(Int.tmod (kd + 1) 10) == 6) = false := by rw [hE]; rw [hr]; rfl
  have t7 : (-(Int.tmod (kd + 1) 10) == 7) = false := by rw [hE]; rw [hr]; rfl
  have t8 : (-(Int.tmod (kd + 1) 10) == 8) = false := by rw [hE]; rw [hr]; rfl
  have t9 : (-(Int.tmod (kd + 1) 10) == 9) = false := by rw [hE]; rw [hr]; rfl
  clear hE hr
  obtain ⟨v, s2, hR⟩ : ∃ v s2, openR s nm.data.toList lab dt = (v, s2) := ⟨_, _, rfl⟩
  have HRR := Lib.hid hR
  clear hR
  go_enter Tryd.func31, Tryd.ntmps31
  go_wp2_with fail
  have hx : HeldD w.heap.size kd nm lab dn dm dt (w.alloc (.cells #[.int .i64 kd, .string nm, .string lab, .int .i64 dn, .int .i64 dm, .int .u8 (dt.toNat : Int)] 63)).drew := ⟨by simp, by simp, by simp, by simp, by simp, by simp⟩
  have HX := Lib.hid hx
  clear hx
  have HP0 := Lib.hid (HP00.out.later (Below.refl _ _).drew)
  have HB1 := Lib.hid HB0.out.drew
  go_region_held3 (fun W => HeldD w.heap.size kd nm lab dn dm dt W) (first | exact k3 (by assumption) | exact k4 (by assumption) | exact HX.out)
    (first
      | (go_at_call 26; refine (p_open HP0.out (by omega) nm lab dt k2 v s2 HRR.out).mono ?_; rintro e W2 ⟨rfl, hP2, hS2⟩; have HP2 := Lib.hid hP2; have HS2 := Lib.hid hS2; have k4 := fun h => heldD_same (kd := kd) (nm := nm) (lab := lab) (dn := dn) (dm := dm) (dt := dt) hS2 h)
      | (go_at_call 44; refine (q_begin HP2.out HFW.out nm lab dt v s2 HRR.out).mono ?_; rintro e W3 ⟨rfl, hP3, hS3⟩; have HP3 := Lib.hid hP3; have HS3 := Lib.hid hS3; have k3 := fun h => heldD_same (kd := kd) (nm := nm) (lab := lab) (dn := dn) (dm := dm) (dt := dt) hS3 h))
  all_goals
    go_wp2_with fail
    go_ret
    exact does_end (by simp) HP3.out (HB1.out.trans (HS2.out.1.trans HS3.out.1))
set_option maxRecDepth 100000 in
set_option maxHeartbeats 4000000 in
theorem does_4_p (kd : Int) (nm lab : ByteArray) (dn dm : Int) (dt : UInt8) (k0 : -9223372036854775808 ≤ kd) (k1 : kd ≤ 9223372036854775807) (k2 : nm.size ≤ maxLen) (hneg : ¬ kd < 0) (hr : kd % 10 = 4) {w : World} {B bb rb n : Nat} {P : ByteArray} {s : St} (h : Pair w B bb rb P n s s noK) (hn : n < 400000) :
    Calls Tryd.prog 31 #[.pointer (some ⟨bb, 0, none⟩), .pointer (some ⟨rb, 0, none⟩), .agg #[.int .i64 kd, .string nm, .string lab, .int .i64 dn, .int .i64 dm, .int .u8 (dt.toNat : Int)]] w (DoesS B bb rb n P w) := by
  have HFW := Lib.hid (h.few (by omega))
  have B0 : Below w.heap.size w (w.alloc (.cells #[.int .i64 kd, .string nm, .string lab, .int .i64 dn, .int .i64 dm, .int .u8 (dt.toNat : Int)] 63)) := (Below.refl _ _).alloc (Nat.le_refl _) _
  have hp0 : Pair (w.alloc (.cells #[.int .i64 kd, .string nm, .string lab, .int .i64 dn, .int .i64 dm, .int .u8 (dt.toNat : Int)] 63)) B bb rb P n s s (fun b => b = w.heap.size) := (h.alloc (.cells #[.int .i64 kd, .string nm, .string lab, .int .i64 dn, .int .i64 dm, .int .u8 (dt.toNat : Int)] 63)).sub (fun b hb => .inr hb)
  have HB0 := Lib.hid (B0.mono h.env.size)
  have HP00 := Lib.hid hp0
  have HE0 := Lib.hid h.env.size
  clear h hp0 B0
  have hn9 : decide (kd < 0) = false := decide_eq_false hneg
  have hp9 : 0 ≤ kd := by omega
  have t3 : (kd % 10 == 3) = false := by rw [hr]; rfl
  have t4 : (kd % 10 == 4) = true := by rw [hr]; rfl
  have t5 : (kd % 10 == 5) = false := by rw [hr]; rfl
  have t6 : (kd % 10 == 6) = false := by rw [hr]; rfl
  have t7 : (kd % 10 == 7) = false := by rw [hr]; rfl
  have t8 : (kd % 10 == 8) = false := by rw [hr]; rfl
  have t9 : (kd % 10 == 9) = false := by rw [hr]; rfl
  clear hr
  obtain ⟨v, s2, hR⟩ : ∃ v s2, openR s nm.data.toList lab dt = (v, s2) := ⟨_, _, rfl⟩
  have HRR := Lib.hid hR
  clear hR
  go_enter Tryd.func31, Tryd.ntmps31
  go_wp2_with fail
  have hx : HeldD w.heap.size kd nm lab dn dm dt (w.alloc (.cells #[.int .i64 kd, .string nm, .string lab, .int .i64 dn, .int .i64 dm, .int .u8 (dt.toNat : Int)] 63)).drew := ⟨by simp, by simp, by simp, by simp, by simp, by simp⟩
  have HX := Lib.hid hx
  clear hx
  have HP0 := Lib.hid (HP00.out.later (Below.refl _ _).drew)
  have HB1 := Lib.hid HB0.out.drew
  go_region_held3 (fun W => HeldD w.heap.size kd nm lab dn dm dt W) (first | exact k3 (by assumption) | exact k4 (by assumption) | exact HX.out)
    (first
      | (go_at_call 26; refine (p_open HP0.out (by omega) nm lab dt k2 v s2 HRR.out).mono ?_; rintro e W2 ⟨rfl, hP2, hS2⟩; have HP2 := Lib.hid hP2; have HS2 := Lib.hid hS2; have k4 := fun h => heldD_same (kd := kd) (nm := nm) (lab := lab) (dn := dn) (dm := dm) (dt := dt) hS2 h)
      | (go_at_call 44; refine (q_begin HP2.out HFW.out nm lab dt v s2 HRR.out).mono ?_; rintro e W3 ⟨rfl, hP3, hS3⟩; have HP3 := Lib.hid hP3; have HS3 := Lib.hid hS3; have k3 := fun h => heldD_same (kd := kd) (nm := nm) (lab := lab) (dn := dn) (dm := dm) (dt := dt) hS3 h))
  all_goals
    go_wp2_with fail
    go_ret
    exact does_end (by simp) HP3.out (HB1.out.trans (HS2.out.1.trans HS3.out.1))
set_option maxRecDepth 100000 in
set_option maxHeartbeats 4000000 in
theorem does_5_n (kd : Int) (nm lab : ByteArray) (dn dm : Int) (dt : UInt8) (k0 : -9223372036854775808 ≤ kd) (k1 : kd ≤ 9223372036854775807) (k2 : nm.size ≤ maxLen) (hneg : kd < 0) (hr : (-(kd + 1)) % 10 = 5) {w : World} {B bb rb n : Nat} {P : ByteArray} {s : St} (h : Pair w B bb rb P n s s noK) (hn : n < 400000) :
    Calls Tryd.prog 31 #[.pointer (some ⟨bb, 0, none⟩), .pointer (some ⟨rb, 0, none⟩), .agg #[.int .i64 kd, .string nm, .string lab, .int .i64 dn, .int .i64 dm, .int .u8 (dt.toNat : Int)]] w (DoesS B bb rb n P w) := by
  have HFW := Lib.hid (h.few (by omega))
  have B0 : Below w.heap.size w (w.alloc (.cells #[.int .i64 kd, .string nm, .string lab, .int .i64 dn, .int .i64 dm, .int .u8 (dt.toNat : Int)] 63)) := (Below.refl _ _).alloc (Nat.le_refl _) _
  have hp0 : Pair (w.alloc (.cells #[.int .i64 kd, .string nm, .string lab, .int .i64 dn, .int .i64 dm, .int .u8 (dt.toNat : Int)] 63)) B bb rb P n s s (fun b => b = w.heap.size) := (h.alloc (.cells #[.int .i64 kd, .string nm, .string lab, .int .i64 dn, .int .i64 dm, .int .u8 (dt.toNat : Int)] 63)).sub (fun b hb => .inr hb)
  have HB0 := Lib.hid (B0.mono h.env.size)
  have HP00 := Lib.hid hp0
  have HE0 := Lib.hid h.env.size
  clear h hp0 B0
  have hn9 : decide (kd < 0) = true := decide_eq_true hneg
  have hE : -(Int.tmod (kd + 1) 10) = -(kd + 1) % 10 := by rw [← Int.neg_tmod, Int.tmod_eq_emod_of_nonneg (by omega)]
  have t3 : (-(Int.tmod (kd + 1) 10) == 3) = false := by rw [hE]; rw [hr]; rfl
  have t4 : (-(Int.tmod (kd + 1) 10) == 4) = false := by rw [hE]; rw [hr]; rfl
  have t5 : (-(Int.tmod (kd + 1) 10) == 5) = true := by rw [hE]; rw [hr]; rfl
  have t6 : (-(Int.tmod (kd + 1) 10) == 6) = false := by rw [hE]; rw [hr]; rfl
  have t7 : (-(Int.tmod (kd + 1) 10) == 7) = false := by rw [hE]; rw [hr]; rfl
  have t8 : (-(Int.tmod (kd + 1) 10) == 8) = false := by rw [hE]; rw [hr]; rfl
  have t9 : (-(Int.tmod (kd + 1) 10) == 9) = false := by rw [hE]; rw [hr]; rfl
  clear hE hr
  obtain ⟨v, s2, hR⟩ : ∃ v s2, elseR s = (v, s2) := ⟨_, _, rfl⟩
  have HRR := Lib.hid hR
  clear hR
  go_enter Tryd.func31, Tryd.ntmps31
  go_wp2_with fail
  have HP0 := Lib.hid HP00.out
  refine (p_else HP0.out (by omega) v s2 HRR.out).mono ?_
  rintro e w2 ⟨rfl, hP2, hS2⟩
  have HP2 := Lib.hid hP2
  have HS2 := Lib.hid hS2
  clear hP2 hS2
  go_wp2_with fail
  refine (q_else HP2.out HFW.out v s2 HRR.out).mono ?_
  rintro e w3 ⟨rfl, hP3, hS3⟩
  have HP3 := Lib.hid hP3
  have HB3 := Lib.hid (HB0.out.trans (HS2.out.1.trans hS3.1))
  clear hP3 hS3
  go_wp2_with fail
  go_ret
  exact does_end (by simp) HP3.out HB3.out
set_option maxRecDepth 100000 in
set_option maxHeartbeats 4000000 in
theorem does_5_p (kd : Int) (nm lab : ByteArray) (dn dm : Int) (dt : UInt8) (k0 : -9223372036854775808 ≤ kd) (k1 : kd ≤ 9223372036854775807) (k2 : nm.size ≤ maxLen) (hneg : ¬ kd < 0) (hr : kd % 10 = 5) {w : World} {B bb rb n : Nat} {P : ByteArray} {s : St} (h : Pair w B bb rb P n s s noK) (hn : n < 400000) :
    Calls Tryd.prog 31 #[.pointer (some ⟨bb, 0, none⟩), .pointer (some ⟨rb, 0, none⟩), .agg #[.int .i64 kd, .string nm, .string lab, .int .i64 dn, .int .i64 dm, .int .u8 (dt.toNat : Int)]] w (DoesS B bb rb n P w) := by
  have HFW := Lib.hid (h.few (by omega))
  have B0 : Below w.heap.size w (w.alloc (.cells #[.int .i64 kd, .string nm, .string lab, .int .i64 dn, .int .i64 dm, .int .u8 (dt.toNat : Int)] 63)) := (Below.refl _ _).alloc (Nat.le_refl _) _
  have hp0 : Pair (w.alloc (.cells #[.int .i64 kd, .string nm, .string lab, .int .i64 dn, .int .i64 dm, .int .u8 (dt.toNat : Int)] 63)) B bb rb P n s s (fun b => b = w.heap.size) := (h.alloc (.cells #[.int .i64 kd, .string nm, .string lab, .int .i64 dn, .int .i64 dm, .int .u8 (dt.toNat : Int)] 63)).sub (fun b hb => .inr hb)
  have HB0 := Lib.hid (B0.mono h.env.size)
  have HP00 := Lib.hid hp0
  have HE0 := Lib.hid h.env.size
  clear h hp0 B0
  have hn9 : decide (kd < 0) = false := decide_eq_false hneg
  have hp9 : 0 ≤ kd := by omega
  have t3 : (kd % 10 == 3) = false := by rw [hr]; rfl
  have t4 : (kd % 10 == 4) = false := by rw [hr]; rfl
  have t5 : (kd % 10 == 5) = true := by rw [hr]; rfl
  have t6 : (kd % 10 == 6) = false := by rw [hr]; rfl
  have t7 : (kd % 10 == 7) = false := by rw [hr]; rfl
  have t8 : (kd % 10 == 8) = false := by rw [hr]; rfl
  have t9 : (kd % 10 == 9) = false := by rw [hr]; rfl
  clear hr
  obtain ⟨v, s2, hR⟩ : ∃ v s2, elseR s = (v, s2) := ⟨_, _, rfl⟩
  have HRR := Lib.hid hR
  clear hR
  go_enter Tryd.func31, Tryd.ntmps31
  go_wp2_with fail
  have HP0 := Lib.hid HP00.out
  refine (p_else HP0.out (by omega) v s2 HRR.out).mono ?_
  rintro e w2 ⟨rfl, hP2, hS2⟩
  have HP2 := Lib.hid hP2
  have HS2 := Lib.hid hS2
  clear hP2 hS2
  go_wp2_with fail
  refine (q_else HP2.out HFW.out v s2 HRR.out).mono ?_
  rintro e w3 ⟨rfl, hP3, hS3⟩
  have HP3 := Lib.hid hP3
  have HB3 := Lib.hid (HB0.out.trans (HS2.out.1.trans hS3.1))
  clear hP3 hS3
  go_wp2_with fail
  go_ret
  exact does_end (by simp) HP3.out HB3.out
set_option maxRecDepth 100000 in
set_option maxHeartbeats 4000000 in
theorem does_6_n (kd : Int) (nm lab : ByteArray) (dn dm : Int) (dt : UInt8) (k0 : -9223372036854775808 ≤ kd) (k1 : kd ≤ 9223372036854775807) (k2 : nm.size ≤ maxLen) (hneg : kd < 0) (hr : (-(kd + 1)) % 10 = 6) {w : World} {B bb rb n : Nat} {P : ByteArray} {s : St} (h : Pair w B bb rb P n s s noK) (hn : n < 400000) :
    Calls Tryd.prog 31 #[.pointer (some ⟨bb, 0, none⟩), .pointer (some ⟨rb, 0, none⟩), .agg #[.int .i64 kd, .string nm, .string lab, .int .i64 dn, .int .i64 dm, .int .u8 (dt.toNat : Int)]] w (DoesS B bb rb n P w) := by
  have HFW := Lib.hid (h.few (by omega))
  have B0 : Below w.heap.size w (w.alloc (.cells #[.int .i64 kd, .string nm, .string lab, .int .i64 dn, .int .i64 dm, .int .u8 (dt.toNat : Int)] 63)) := (Below.refl _ _).alloc (Nat.le_refl _) _
  have hp0 : Pair (w.alloc (.cells #[.int .i64 kd, .string nm, .string lab, .int .i64 dn, .int .i64 dm, .int .u8 (dt.toNat : Int)] 63)) B bb rb P n s s (fun b => b = w.heap.size) := (h.alloc (.cells #[.int .i64 kd, .string nm, .string lab, .int .i64 dn, .int .i64 dm, .int .u8 (dt.toNat : Int)] 63)).sub (fun b hb => .inr hb)
  have HB0 := Lib.hid (B0.mono h.env.size)
  have HP00 := Lib.hid hp0
  have HE0 := Lib.hid h.env.size
  clear h hp0 B0
  have hn9 : decide (kd < 0) = true := decide_eq_true hneg
  have hE : -(Int.tmod (kd + 1) 10) = -(kd + 1) % 10 := by rw [← Int.neg_tmod, Int.tmod_eq_emod_of_nonneg (by omega)]
  have t3 : (-(Int.tmod (kd + 1) 10) == 3) = false := by rw [hE]; rw [hr]; rfl
  have t4 : (-(Int.tmod (kd + 1) 10) == 4) = false := by rw [hE]; rw [hr]; rfl
  have t5 : (-(Int.tmod (kd + 1) 10) == 5) = false := by rw [hE]; rw [hr]; rfl
  have t6 : (-(Int.tmod (kd + 1) 10) == 6) = true := by rw [hE]; rw [hr]; rfl
  have t7 : (-(Int.tmod (kd + 1) 10) == 7) = false := by rw [hE]; rw [hr]; rfl
  have t8 : (-(Int.tmod (kd + 1) 10) == 8) = false := by rw [hE]; rw [hr]; rfl
  have t9 : (-(Int.tmod (kd + 1) 10) == 9) = false := by rw [hE]; rw [hr]; rfl
  clear hE hr
  obtain ⟨v, s2, hR⟩ : ∃ v s2, closeR s = (v, s2) := ⟨_, _, rfl⟩
  have HRR := Lib.hid hR
  clear hR
  go_enter Tryd.func31, Tryd.ntmps31
  go_wp2_with fail
  have HP0 := Lib.hid HP00.out
  refine (p_close HP0.out (by omega) v s2 HRR.out).mono ?_
  rintro e w2 ⟨rfl, hP2, hS2⟩
  have HP2 := Lib.hid hP2
  have HS2 := Lib.hid hS2
  clear hP2 hS2
  go_wp2_with fail
  refine (q_close HP2.out HFW.out v s2 HRR.out).mono ?_
  rintro e w3 ⟨rfl, hP3, hS3⟩
  have HP3 := Lib.hid hP3
  have HB3 := Lib.hid (HB0.out.trans (HS2.out.1.trans hS3.1))
  clear hP3 hS3
  go_wp2_with fail
  go_ret
  exact does_end (by simp) HP3.out HB3.out
set_option maxRecDepth 100000 in
set_option maxHeartbeats 4000000 in
theorem does_6_p (kd : Int) (nm lab : ByteArray) (dn dm : Int) (dt : UInt8) (k0 : -9223372036854775808 ≤ kd) (k1 : kd ≤ 9223372036854775807) (k2 : nm.size ≤ maxLen) (hneg : ¬ kd < 0) (hr : kd % 10 = 6) {w : World} {B bb rb n : Nat} {P : ByteArray} {s : St} (h : Pair w B bb rb P n s s noK) (hn : n < 400000) :
    Calls Tryd.prog 31 #[.pointer (some ⟨bb, 0, none⟩), .pointer (some ⟨rb, 0, none⟩), .agg #[.int .i64 kd, .string nm, .string lab, .int .i64 dn, .int .i64 dm, .int .u8 (dt.toNat : Int)]] w (DoesS B bb rb n P w) := by
  have HFW := Lib.hid (h.few (by omega))
  have B0 : Below w.heap.size w (w.alloc (.cells #[.int .i64 kd, .string nm, .string lab, .int .i64 dn, .int .i64 dm, .int .u8 (dt.toNat : Int)] 63)) := (Below.refl _ _).alloc (Nat.le_refl _) _
  have hp0 : Pair (w.alloc (.cells #[.int .i64 kd, .string nm, .string lab, .int .i64 dn, .int .i64 dm, .int .u8 (dt.toNat : Int)] 63)) B bb rb P n s s (fun b => b = w.heap.size) := (h.alloc (.cells #[.int .i64 kd, .string nm, .string lab, .int .i64 dn, .int .i64 dm, .int .u8 (dt.toNat : Int)] 63)).sub (fun b hb => .inr hb)
  have HB0 := Lib.hid (B0.mono h.env.size)
  have HP00 := Lib.hid hp0
  have HE0 := Lib.hid h.env.size
  clear h hp0 B0
  have hn9 : decide (kd < 0) = false := decide_eq_false hneg
  have hp9 : 0 ≤ kd := by omega
  have t3 : (kd % 10 == 3) = false := by rw [hr]; rfl
  have t4 : (kd % 10 == 4) = false := by rw [hr]; rfl
  have t5 : (kd % 10 == 5) = false := by rw [hr]; rfl
  have t6 : (kd % 10 == 6) = true := by rw [hr]; rfl
  have t7 : (kd % 10 == 7) = false := by rw [hr]; rfl
  have t8 : (kd % 10 == 8) = false := by rw [hr]; rfl
  have t9 : (kd % 10 == 9) = false := by rw [hr]; rfl
  clear hr
  obtain ⟨v, s2, hR⟩ : ∃ v s2, closeR s = (v, s2) := ⟨_, _, rfl⟩
  have HRR := Lib.hid hR
  clear hR
  go_enter Tryd.func31, Tryd.ntmps31
  go_wp2_with fail
  have HP0 := Lib.hid HP00.out
  refine (p_close HP0.out (by omega) v s2 HRR.out).mono ?_
  rintro e w2 ⟨rfl, hP2, hS2⟩
  have HP2 := Lib.hid hP2
  have HS2 := Lib.hid hS2
  clear hP2 hS2
  go_wp2_with fail
  refine (q_close HP2.out HFW.out v s2 HRR.out).mono ?_
  rintro e w3 ⟨rfl, hP3, hS3⟩
  have HP3 := Lib.hid hP3
  have HB3 := Lib.hid (HB0.out.trans (HS2.out.1.trans hS3.1))
  clear hP3 hS3
  go_wp2_with fail
  go_ret
  exact does_end (by simp) HP3.out HB3.out
set_option maxRecDepth 100000 in
set_option maxHeartbeats 4000000 in
theorem does_7_n (kd : Int) (nm lab : ByteArray) (dn dm : Int) (dt : UInt8) (k0 : -9223372036854775808 ≤ kd) (k1 : kd ≤ 9223372036854775807) (k2 : nm.size ≤ maxLen) (hneg : kd < 0) (hr : (-(kd + 1)) % 10 = 7) {w : World} {B bb rb n : Nat} {P : ByteArray} {s : St} (h : Pair w B bb rb P n s s noK) (hn : n < 400000) :
    Calls Tryd.prog 31 #[.pointer (some ⟨bb, 0, none⟩), .pointer (some ⟨rb, 0, none⟩), .agg #[.int .i64 kd, .string nm, .string lab, .int .i64 dn, .int .i64 dm, .int .u8 (dt.toNat : Int)]] w (DoesS B bb rb n P w) := by
  have HFW := Lib.hid (h.few (by omega))
  have B0 : Below w.heap.size w (w.alloc (.cells #[.int .i64 kd, .string nm, .string lab, .int .i64 dn, .int .i64 dm, .int .u8 (dt.toNat : Int)] 63)) := (Below.refl _ _).alloc (Nat.le_refl _) _
  have hp0 : Pair (w.alloc (.cells #[.int .i64 kd, .string nm, .string lab, .int .i64 dn, .int .i64 dm, .int .u8 (dt.toNat : Int)] 63)) B bb rb P n s s (fun b => b = w.heap.size) := (h.alloc (.cells #[.int .i64 kd, .string nm, .string lab, .int .i64 dn, .int .i64 dm, .int .u8 (dt.toNat : Int)] 63)).sub (fun b hb => .inr hb)
  have HB0 := Lib.hid (B0.mono h.env.size)
  have HP00 := Lib.hid hp0
  have HE0 := Lib.hid h.env.size
  clear h hp0 B0
  have hn9 : decide (kd < 0) = true := decide_eq_true hneg
  have hE : -(Int.tmod (kd + 1) 10) = -(kd + 1) % 10 := by rw [← Int.neg_tmod, Int.tmod_eq_emod_of_nonneg (by omega)]
  have t3 : (-(Int.tmod (kd + 1) 10) == 3) = false := by rw [hE]; rw [hr]; rfl
  have t4 : (-(Int.tmod (kd + 1) 10) == 4) = false := by rw [hE]; rw [hr]; rfl
  have t5 : (-(Int.tmod (kd + 1) 10) == 5) = false := by rw [hE]; rw [hr]; rfl
  have t6 : (-(Int.tmod (kd + 1) 10) == 6) = false := by rw [hE]; rw [hr]; rfl
  have t7 : (-(Int.tmod (kd + 1) 10) == 7) = true := by rw [hE]; rw [hr]; rfl
  have t8 : (-(Int.tmod (kd + 1) 10) == 8) = false := by rw [hE]; rw [hr]; rfl
  have t9 : (-(Int.tmod (kd + 1) 10) == 9) = false := by rw [hE]; rw [hr]; rfl
  clear hE hr
  obtain ⟨v, s2, hR⟩ : ∃ v s2, goR s nm.data.toList lab.data.toList = (v, s2) := ⟨_, _, rfl⟩
  have HRR := Lib.hid hR
  clear hR
  go_enter Tryd.func31, Tryd.ntmps31
  go_wp2_with fail
  have hx : HeldD w.heap.size kd nm lab dn dm dt (w.alloc (.cells #[.int .i64 kd, .string nm, .string lab, .int .i64 dn, .int .i64 dm, .int .u8 (dt.toNat : Int)] 63)).drew := ⟨by simp, by simp, by simp, by simp, by simp, by simp⟩
  have HX := Lib.hid hx
  clear hx
  have HP0 := Lib.hid (HP00.out.later (Below.refl _ _).drew)
  have HB1 := Lib.hid HB0.out.drew
  go_region_held3 (fun W => HeldD w.heap.size kd nm lab dn dm dt W) (first | exact k3 (by assumption) | exact k4 (by assumption) | exact HX.out)
    (first
      | (go_at_call 27; refine (p_go HP0.out (by omega) nm lab k2 v s2 HRR.out).mono ?_; rintro e W2 ⟨rfl, hP2, hS2⟩; have HP2 := Lib.hid hP2; have HS2 := Lib.hid hS2; have k4 := fun h => heldD_same (kd := kd) (nm := nm) (lab := lab) (dn := dn) (dm := dm) (dt := dt) hS2 h)
      | (go_at_call 47; refine (q_go HP2.out HFW.out nm lab v s2 HRR.out).mono ?_; rintro e W3 ⟨rfl, hP3, hS3⟩; have HP3 := Lib.hid hP3; have HS3 := Lib.hid hS3; have k3 := fun h => heldD_same (kd := kd) (nm := nm) (lab := lab) (dn := dn) (dm := dm) (dt := dt) hS3 h))
  all_goals
    go_wp2_with fail
    go_ret
    exact does_end (by simp) HP3.out (HB1.out.trans (HS2.out.1.trans HS3.out.1))
set_option maxRecDepth 100000 in
set_option maxHeartbeats 4000000 in
theorem does_7_p (kd : Int) (nm lab : ByteArray) (dn dm : Int) (dt : UInt8) (k0 : -9223372036854775808 ≤ kd) (k1 : kd ≤ 9223372036854775807) (k2 : nm.size ≤ maxLen) (hneg : ¬ kd < 0) (hr : kd % 10 = 7) {w : World} {B bb rb n : Nat} {P : ByteArray} {s : St} (h : Pair w B bb rb P n s s noK) (hn : n < 400000) :
    Calls Tryd.prog 31 #[.pointer (some ⟨bb, 0, none⟩), .pointer (some ⟨rb, 0, none⟩), .agg #[.int .i64 kd, .string nm, .string lab, .int .i64 dn, .int .i64 dm, .int .u8 (dt.toNat : Int)]] w (DoesS B bb rb n P w) := by
  have HFW := Lib.hid (h.few (by omega))
  have B0 : Below w.heap.size w (w.alloc (.cells #[.int .i64 kd, .string nm, .string lab, .int .i64 dn, .int .i64 dm, .int .u8 (dt.toNat : Int)] 63)) := (Below.refl _ _).alloc (Nat.le_refl _) _
  have hp0 : Pair (w.alloc (.cells #[.int .i64 kd, .string nm, .string lab, .int .i64 dn, .int .i64 dm, .int .u8 (dt.toNat : Int)] 63)) B bb rb P n s s (fun b => b = w.heap.size) := (h.alloc (.cells #[.int .i64 kd, .string nm, .string lab, .int .i64 dn, .int .i64 dm, .int .u8 (dt.toNat : Int)] 63)).sub (fun b hb => .inr hb)
  have HB0 := Lib.hid (B0.mono h.env.size)
  have HP00 := Lib.hid hp0
  have HE0 := Lib.hid h.env.size
  clear h hp0 B0
  have hn9 : decide (kd < 0) = false := decide_eq_false hneg
  have hp9 : 0 ≤ kd := by omega
  have t3 : (kd % 10 == 3) = false := by rw [hr]; rfl
  have t4 : (kd % 10 == 4) = false := by rw [hr]; rfl
  have t5 : (kd % 10 == 5) = false := by rw [hr]; rfl
  have t6 : (kd % 10 == 6) = false := by rw [hr]; rfl
  have t7 : (kd % 10 == 7) = true := by rw [hr]; rfl
  have t8 : (kd % 10 == 8) = false := by rw [hr]; rfl
  have t9 : (kd % 10 == 9) = false := by rw [hr]; rfl
  clear hr
  obtain ⟨v, s2, hR⟩ : ∃ v s2, goR s nm.data.toList lab.data.toList = (v, s2) := ⟨_, _, rfl⟩
  have HRR := Lib.hid hR
  clear hR
  go_enter Tryd.func31, Tryd.ntmps31
  go_wp2_with fail
  have hx : HeldD w.heap.size kd nm lab dn dm dt (w.alloc (.cells #[.int .i64 kd, .string nm, .string lab, .int .i64 dn, .int .i64 dm, .int .u8 (dt.toNat : Int)] 63)).drew := ⟨by simp, by simp, by simp, by simp, by simp, by simp⟩
  have HX := Lib.hid hx
  clear hx
  have HP0 := Lib.hid (HP00.out.later (Below.refl _ _).drew)
  have HB1 := Lib.hid HB0.out.drew
  go_region_held3 (fun W => HeldD w.heap.size kd nm lab dn dm dt W) (first | exact k3 (by assumption) | exact k4 (by assumption) | exact HX.out)
    (first
      | (go_at_call 27; refine (p_go HP0.out (by omega) nm lab k2 v s2 HRR.out).mono ?_; rintro e W2 ⟨rfl, hP2, hS2⟩; have HP2 := Lib.hid hP2; have HS2 := Lib.hid hS2; have k4 := fun h => heldD_same (kd := kd) (nm := nm) (lab := lab) (dn := dn) (dm := dm) (dt := dt) hS2 h)
      | (go_at_call 47; refine (q_go HP2.out HFW.out nm lab v s2 HRR.out).mono ?_; rintro e W3 ⟨rfl, hP3, hS3⟩; have HP3 := Lib.hid hP3; have HS3 := Lib.hid hS3; have k3 := fun h => heldD_same (kd := kd) (nm := nm) (lab := lab) (dn := dn) (dm := dm) (dt := dt) hS3 h))
  all_goals
    go_wp2_with fail
    go_ret
    exact does_end (by simp) HP3.out (HB1.out.trans (HS2.out.1.trans HS3.out.1))
set_option maxRecDepth 100000 in
set_option maxHeartbeats 4000000 in
theorem does_8_n (kd : Int) (nm lab : ByteArray) (dn dm : Int) (dt : UInt8) (k0 : -9223372036854775808 ≤ kd) (k1 : kd ≤ 9223372036854775807) (k2 : nm.size ≤ maxLen) (hneg : kd < 0) (hr : (-(kd + 1)) % 10 = 8) {w : World} {B bb rb n : Nat} {P : ByteArray} {s : St} (h : Pair w B bb rb P n s s noK) (hn : n < 400000) :
    Calls Tryd.prog 31 #[.pointer (some ⟨bb, 0, none⟩), .pointer (some ⟨rb, 0, none⟩), .agg #[.int .i64 kd, .string nm, .string lab, .int .i64 dn, .int .i64 dm, .int .u8 (dt.toNat : Int)]] w (DoesS B bb rb n P w) := by
  have HFW := Lib.hid (h.few (by omega))
  have B0 : Below w.heap.size w (w.alloc (.cells #[.int .i64 kd, .string nm, .string lab, .int .i64 dn, .int .i64 dm, .int .u8 (dt.toNat : Int)] 63)) := (Below.refl _ _).alloc (Nat.le_refl _) _
  have hp0 : Pair (w.alloc (.cells #[.int .i64 kd, .string nm, .string lab, .int .i64 dn, .int .i64 dm, .int .u8 (dt.toNat : Int)] 63)) B bb rb P n s s (fun b => b = w.heap.size) := (h.alloc (.cells #[.int .i64 kd, .string nm, .string lab, .int .i64 dn, .int .i64 dm, .int .u8 (dt.toNat : Int)] 63)).sub (fun b hb => .inr hb)
  have HB0 := Lib.hid (B0.mono h.env.size)
  have HP00 := Lib.hid hp0
  have HE0 := Lib.hid h.env.size
  clear h hp0 B0
  have hn9 : decide (kd < 0) = true := decide_eq_true hneg
  have hE : -(Int.tmod (kd + 1) 10) = -(kd + 1) % 10 := by rw [← Int.neg_tmod, Int.tmod_eq_emod_of_nonneg (by omega)]
  have t3 : (-(Int.tmod (kd + 1) 10) == 3) = false := by rw [hE]; rw [hr]; rfl
  have t4 : (-(Int.tmod (kd + 1) 10) == 4) = false := by rw [hE]; rw [hr]; rfl
  have t5 : (-(Int.tmod (kd + 1) 10) == 5) = false := by rw [hE]; rw [hr]; rfl
  have t6 : (-(Int.tmod (kd + 1) 10) == 6) = false := by rw [hE]; rw [hr]; rfl
  have t7 : (-(Int.tmod (kd + 1) 10) == 7) = false := by rw [hE]; rw [hr]; rfl
  have t8 : (-(Int.tmod (kd + 1) 10) == 8) = true := by rw [hE]; rw [hr]; rfl
  have t9 : (-(Int.tmod (kd + 1) 10) == 9) = false := by rw [hE]; rw [hr]; rfl
  clear hE hr
  obtain ⟨v, e1, s2, hR⟩ : ∃ v e1 s2, localR s dt = (v, e1, s2) := ⟨_, _, _, rfl⟩
  have HRR := Lib.hid hR
  clear hR
  go_enter Tryd.func31, Tryd.ntmps31
  go_wp2_with fail
  have HP0 := Lib.hid HP00.out
  refine (p_local HP0.out (by omega) dt v e1 s2 HRR.out).mono ?_
  rintro e w2 ⟨rfl, hP2, hS2⟩
  have HP2 := Lib.hid hP2
  have HS2 := Lib.hid hS2
  have x5 : w2.cell? ⟨w.heap.size, 5, none⟩ = some (.int .u8 (dt.toNat : Int)) := hS2.cell rfl (by simp)
  have hlt : w.heap.size < w2.heap.size := World.block_lt_of_cell? w2 _ x5
  clear hP2 hS2
  go_wp2_with fail
  refine (q_local HP2.out HFW.out dt v e1 s2 HRR.out).mono ?_
  rintro e w3 ⟨rfl, hP3, hS3⟩
  have HP3 := Lib.hid hP3
  have HB3 := Lib.hid (HB0.out.trans (HS2.out.1.trans hS3.1))
  clear hP3 hS3
  go_wp2_with fail
  go_ret
  exact does_end (by simp) HP3.out HB3.out
set_option maxRecDepth 100000 in
set_option maxHeartbeats 4000000 in
theorem does_8_p (kd : Int) (nm lab : ByteArray) (dn dm : Int) (dt : UInt8) (k0 : -9223372036854775808 ≤ kd) (k1 : kd ≤ 9223372036854775807) (k2 : nm.size ≤ maxLen) (hneg : ¬ kd < 0) (hr : kd % 10 = 8) {w : World} {B bb rb n : Nat} {P : ByteArray} {s : St} (h : Pair w B bb rb P n s s noK) (hn : n < 400000) :
    Calls Tryd.prog 31 #[.pointer (some ⟨bb, 0, none⟩), .pointer (some ⟨rb, 0, none⟩), .agg #[.int .i64 kd, .string nm, .string lab, .int .i64 dn, .int .i64 dm, .int .u8 (dt.toNat : Int)]] w (DoesS B bb rb n P w) := by
  have HFW := Lib.hid (h.few (by omega))
  have B0 : Below w.heap.size w (w.alloc (.cells #[.int .i64 kd, .string nm, .string lab, .int .i64 dn, .int .i64 dm, .int .u8 (dt.toNat : Int)] 63)) := (Below.refl _ _).alloc (Nat.le_refl _) _
  have hp0 : Pair (w.alloc (.cells #[.int .i64 kd, .string nm, .string lab, .int .i64 dn, .int .i64 dm, .int .u8 (dt.toNat : Int)] 63)) B bb rb P n s s (fun b => b = w.heap.size) := (h.alloc (.cells #[.int .i64 kd, .string nm, .string lab, .int .i64 dn, .int .i64 dm, .int .u8 (dt.toNat : Int)] 63)).sub (fun b hb => .inr hb)
  have HB0 := Lib.hid (B0.mono h.env.size)
  have HP00 := Lib.hid hp0
  have HE0 := Lib.hid h.env.size
  clear h hp0 B0
  have hn9 : decide (kd < 0) = false := decide_eq_false hneg
  have hp9 : 0 ≤ kd := by omega
  have t3 : (kd % 10 == 3) = false := by rw [hr]; rfl
  have t4 : (kd % 10 == 4) = false := by rw [hr]; rfl
  have t5 : (kd % 10 == 5) = false := by rw [hr]; rfl
  have t6 : (kd % 10 == 6) = false := by rw [hr]; rfl
  have t7 : (kd % 10 == 7) = false := by rw [hr]; rfl
  have t8 : (kd % 10 == 8) = true := by rw [hr]; rfl
  have t9 : (kd % 10 == 9) = false := by rw [hr]; rfl
  clear hr
  obtain ⟨v, e1, s2, hR⟩ : ∃ v e1 s2, localR s dt = (v, e1, s2) := ⟨_, _, _, rfl⟩
  have HRR := Lib.hid hR
  clear hR
  go_enter Tryd.func31, Tryd.ntmps31
  go_wp2_with fail
  have HP0 := Lib.hid HP00.out
  refine (p_local HP0.out (by omega) dt v e1 s2 HRR.out).mono ?_
  rintro e w2 ⟨rfl, hP2, hS2⟩
  have HP2 := Lib.hid hP2
  have HS2 := Lib.hid hS2
  have x5 : w2.cell? ⟨w.heap.size, 5, none⟩ = some (.int .u8 (dt.toNat : Int)) := hS2.cell rfl (by simp)
  have hlt : w.heap.size < w2.heap.size := World.block_lt_of_cell? w2 _ x5
  clear hP2 hS2
  go_wp2_with fail
  refine (q_local HP2.out HFW.out dt v e1 s2 HRR.out).mono ?_
  rintro e w3 ⟨rfl, hP3, hS3⟩
  have HP3 := Lib.hid hP3
  have HB3 := Lib.hid (HB0.out.trans (HS2.out.1.trans hS3.1))
  clear hP3 hS3
  go_wp2_with fail
  go_ret
  exact does_end (by simp) HP3.out HB3.out
set_option maxRecDepth 100000 in
set_option maxHeartbeats 4000000 in
theorem does_9_n (kd : Int) (nm lab : ByteArray) (dn dm : Int) (dt : UInt8) (k0 : -9223372036854775808 ≤ kd) (k1 : kd ≤ 9223372036854775807) (k2 : nm.size ≤ maxLen) (hneg : kd < 0) (hr : (-(kd + 1)) % 10 = 9) {w : World} {B bb rb n : Nat} {P : ByteArray} {s : St} (h : Pair w B bb rb P n s s noK) (hn : n < 400000) :
    Calls Tryd.prog 31 #[.pointer (some ⟨bb, 0, none⟩), .pointer (some ⟨rb, 0, none⟩), .agg #[.int .i64 kd, .string nm, .string lab, .int .i64 dn, .int .i64 dm, .int .u8 (dt.toNat : Int)]] w (DoesS B bb rb n P w) := by
  have HFW := Lib.hid (h.few (by omega))
  have B0 : Below w.heap.size w (w.alloc (.cells #[.int .i64 kd, .string nm, .string lab, .int .i64 dn, .int .i64 dm, .int .u8 (dt.toNat : Int)] 63)) := (Below.refl _ _).alloc (Nat.le_refl _) _
  have hp0 : Pair (w.alloc (.cells #[.int .i64 kd, .string nm, .string lab, .int .i64 dn, .int .i64 dm, .int .u8 (dt.toNat : Int)] 63)) B bb rb P n s s (fun b => b = w.heap.size) := (h.alloc (.cells #[.int .i64 kd, .string nm, .string lab, .int .i64 dn, .int .i64 dm, .int .u8 (dt.toNat : Int)] 63)).sub (fun b hb => .inr hb)
  have HB0 := Lib.hid (B0.mono h.env.size)
  have HP00 := Lib.hid hp0
  have HE0 := Lib.hid h.env.size
  clear h hp0 B0
  have hn9 : decide (kd < 0) = true := decide_eq_true hneg
  have hE : -(Int.tmod (kd + 1) 10) = -(kd + 1) % 10 := by rw [← Int.neg_tmod, Int.tmod_eq_emod_of_nonneg (by omega)]
  have t3 : (-(Int.tmod (kd + 1) 10) == 3) = false := by rw [hE]; rw [hr]; rfl
  have t4 : (-(Int.tmod (kd + 1) 10) == 4) = false := by rw [hE]; rw [hr]; rfl
  have t5 : (-(Int.tmod (kd + 1) 10) == 5) = false := by rw [hE]; rw [hr]; rfl
  have t6 : (-(Int.tmod (kd + 1) 10) == 6) = false := by rw [hE]; rw [hr]; rfl
  have t7 : (-(Int.tmod (kd + 1) 10) == 7) = false := by rw [hE]; rw [hr]; rfl
  have t8 : (-(Int.tmod (kd + 1) 10) == 8) = false := by rw [hE]; rw [hr]; rfl
  have t9 : (-(Int.tmod (kd + 1) 10) == 9) = true := by rw [hE]; rw [hr]; rfl
  clear hE hr
  go_enter Tryd.func31, Tryd.ntmps31
  go_wp2_with fail
  refine (pdone_any HP00.out (by omega) dn).mono ?_
  rintro e w3 ⟨rfl, c3⟩
  have HP3 := Lib.hid (HP00.out.later c3)
  have HB3 := Lib.hid (HB0.out.trans (c3.mono HP00.out.env.size))
  clear c3
  go_wp2_with fail
  go_ret
  exact does_end rfl (HP3.out.mono (Nat.le_succ n)) HB3.out
set_option maxRecDepth 100000 in
set_option maxHeartbeats 4000000 in
theorem does_9_p (kd : Int) (nm lab : ByteArray) (dn dm : Int) (dt : UInt8) (k0 : -9223372036854775808 ≤ kd) (k1 : kd ≤ 9223372036854775807) (k2 : nm.size ≤ maxLen) (hneg : ¬ kd < 0) (hr : kd % 10 = 9) {w : World} {B bb rb n : Nat} {P : ByteArray} {s : St} (h : Pair w B bb rb P n s s noK) (hn : n < 400000) :
    Calls Tryd.prog 31 #[.pointer (some ⟨bb, 0, none⟩), .pointer (some ⟨rb, 0, none⟩), .agg #[.int .i64 kd, .string nm, .string lab, .int .i64 dn, .int .i64 dm, .int .u8 (dt.toNat : Int)]] w (DoesS B bb rb n P w) := by
  have HFW := Lib.hid (h.few (by omega))
  have B0 : Below w.heap.size w (w.alloc (.cells #[.int .i64 kd, .string nm, .string lab, .int .i64 dn, .int .i64 dm, .int .u8 (dt.toNat : Int)] 63)) := (Below.refl _ _).alloc (Nat.le_refl _) _
  have hp0 : Pair (w.alloc (.cells #[.int .i64 kd, .string nm, .string lab, .int .i64 dn, .int .i64 dm, .int .u8 (dt.toNat : Int)] 63)) B bb rb P n s s (fun b => b = w.heap.size) := (h.alloc (.cells #[.int .i64 kd, .string nm, .string lab, .int .i64 dn, .int .i64 dm, .int .u8 (dt.toNat : Int)] 63)).sub (fun b hb => .inr hb)
  have HB0 := Lib.hid (B0.mono h.env.size)
  have HP00 := Lib.hid hp0
  have HE0 := Lib.hid h.env.size
  clear h hp0 B0
  have hn9 : decide (kd < 0) = false := decide_eq_false hneg
  have hp9 : 0 ≤ kd := by omega
  have t3 : (kd % 10 == 3) = false := by rw [hr]; rfl
  have t4 : (kd % 10 == 4) = false := by rw [hr]; rfl
  have t5 : (kd % 10 == 5) = false := by rw [hr]; rfl
  have t6 : (kd % 10 == 6) = false := by rw [hr]; rfl
  have t7 : (kd % 10 == 7) = false := by rw [hr]; rfl
  have t8 : (kd % 10 == 8) = false := by rw [hr]; rfl
  have t9 : (kd % 10 == 9) = true := by rw [hr]; rfl
  clear hr
  go_enter Tryd.func31, Tryd.ntmps31
  go_wp2_with fail
  refine (pdone_any HP00.out (by omega) dn).mono ?_
  rintro e w3 ⟨rfl, c3⟩
  have HP3 := Lib.hid (HP00.out.later c3)
  have HB3 := Lib.hid (HB0.out.trans (c3.mono HP00.out.env.size))
  clear c3
  go_wp2_with fail
  go_ret
  exact does_end rfl (HP3.out.mono (Nat.le_succ n)) HB3.out
set_option maxRecDepth 100000 in
set_option maxHeartbeats 4000000 in
theorem does_x_n (kd : Int) (nm lab : ByteArray) (dn dm : Int) (dt : UInt8) (k0 : -9223372036854775808 ≤ kd) (k1 : kd ≤ 9223372036854775807) (k2 : nm.size ≤ maxLen) (hneg : kd < 0) (hr3 : (-(kd + 1)) % 10 ≠ 3) (hr4 : (-(kd + 1)) % 10 ≠ 4) (hr5 : (-(kd + 1)) % 10 ≠ 5) (hr6 : (-(kd + 1)) % 10 ≠ 6) (hr7 : (-(kd + 1)) % 10 ≠ 7) (hr8 : (-(kd + 1)) % 10 ≠ 8) (hr9 : (-(kd + 1)) % 10 ≠ 9) {w : World} {B bb rb n : Nat} {P : ByteArray} {s : St} (h : Pair w B bb rb P n s s noK) (hn : n < 400000) :
    Calls Tryd.prog 31 #[.pointer (some ⟨bb, 0, none⟩), .pointer (some ⟨rb, 0, none⟩), .agg #[.int .i64 kd, .string nm, .string lab, .int .i64 dn, .int .i64 dm, .int .u8 (dt.toNat : Int)]] w (DoesS B bb rb n P w) := by
  have HFW := Lib.hid (h.few (by omega))
  have B0 : Below w.heap.size w (w.alloc (.cells #[.int .i64 kd, .string nm, .string lab, .int .i64 dn, .int .i64 dm, .int .u8 (dt.toNat : Int)] 63)) := (Below.refl _ _).alloc (Nat.le_refl _) _
  have hp0 : Pair (w.alloc (.cells #[.int .i64 kd, .string nm, .string lab, .int .i64 dn, .int .i64 dm, .int .u8 (dt.toNat : Int)] 63)) B bb rb P n s s (fun b => b = w.heap.size) := (h.alloc (.cells #[.int .i64 kd, .string nm, .string lab, .int .i64 dn, .int .i64 dm, .int .u8 (dt.toNat : Int)] 63)).sub (fun b hb => .inr hb)
  have HB0 := Lib.hid (B0.mono h.env.size)
  have HP00 := Lib.hid hp0
  have HE0 := Lib.hid h.env.size
  clear h hp0 B0
  have hn9 : decide (kd < 0) = true := decide_eq_true hneg
  have hE : -(Int.tmod (kd + 1) 10) = -(kd + 1) % 10 := by rw [← Int.neg_tmod, Int.tmod_eq_emod_of_nonneg (by omega)]
  have t3 : (-(Int.tmod (kd + 1) 10) == 3) = false := by rw [hE]; exact beq_eq_false_iff_ne.2 hr3
  have t4 : (-(Int.tmod (kd + 1) 10) == 4) = false := by rw [hE]; exact beq_eq_false_iff_ne.2 hr4
  have t5 : (-(Int.tmod (kd + 1) 10) == 5) = false := by rw [hE]; exact beq_eq_false_iff_ne.2 hr5
  have t6 : (-(Int.tmod (kd + 1) 10) == 6) = false := by rw [hE]; exact beq_eq_false_iff_ne.2 hr6
  have t7 : (-(Int.tmod (kd + 1) 10) == 7) = false := by rw [hE]; exact beq_eq_false_iff_ne.2 hr7
  have t8 : (-(Int.tmod (kd + 1) 10) == 8) = false := by rw [hE]; exact beq_eq_false_iff_ne.2 hr8
  have t9 : (-(Int.tmod (kd + 1) 10) == 9) = false := by rw [hE]; exact beq_eq_false_iff_ne.2 hr9
  clear hE hr3 hr4 hr5 hr6 hr7 hr8 hr9
  obtain ⟨v, s2, hR⟩ : ∃ v s2, opR s nm.data.toList dn dm = (v, s2) := ⟨_, _, rfl⟩
  have HRR := Lib.hid hR
  clear hR
  go_enter Tryd.func31, Tryd.ntmps31
  go_wp2_with fail
  have hx : HeldD w.heap.size kd nm lab dn dm dt (w.alloc (.cells #[.int .i64 kd, .string nm, .string lab, .int .i64 dn, .int .i64 dm, .int .u8 (dt.toNat : Int)] 63)).drew := ⟨by simp, by simp, by simp, by simp, by simp, by simp⟩
  have HX := Lib.hid hx
  clear hx
  have HP0 := Lib.hid (HP00.out.later (Below.refl _ _).drew)
  have HB1 := Lib.hid HB0.out.drew
  go_region_held3 (fun W => HeldD w.heap.size kd nm lab dn dm dt W) (first | exact k3 (by assumption) | exact k4 (by assumption) | exact HX.out)
    (first
      | (go_at_call 34; refine (p_op HP0.out (by omega) nm dn dm k2 v s2 HRR.out).mono ?_; rintro e W2 ⟨rfl, hP2, hS2⟩; have HP2 := Lib.hid hP2; have HS2 := Lib.hid hS2; have k4 := fun h => heldD_same (kd := kd) (nm := nm) (lab := lab) (dn := dn) (dm := dm) (dt := dt) hS2 h)
      | (go_at_call 49; refine (q_put HP2.out HFW.out nm dn dm v s2 HRR.out).mono ?_; rintro e W3 ⟨rfl, hP3, hS3⟩; have HP3 := Lib.hid hP3; have HS3 := Lib.hid hS3; have k3 := fun h => heldD_same (kd := kd) (nm := nm) (lab := lab) (dn := dn) (dm := dm) (dt := dt) hS3 h))
  all_goals
    go_wp2_with fail
    go_ret
    exact does_end (by simp) HP3.out (HB1.out.trans (HS2.out.1.trans HS3.out.1))
set_option maxRecDepth 100000 in
set_option maxHeartbeats 4000000 in
theorem does_x_p (kd : Int) (nm lab : ByteArray) (dn dm : Int) (dt : UInt8) (k0 : -9223372036854775808 ≤ kd) (k1 : kd ≤ 9223372036854775807) (k2 : nm.size ≤ maxLen) (hneg : ¬ kd < 0) (hr3 : kd % 10 ≠ 3) (hr4 : kd % 10 ≠ 4) (hr5 : kd % 10 ≠ 5) (hr6 : kd % 10 ≠ 6) (hr7 : kd % 10 ≠ 7) (hr8 : kd % 10 ≠ 8) (hr9 : kd % 10 ≠ 9) {w : World} {B bb rb n : Nat} {P : ByteArray} {s : St} (h : Pair w B bb rb P n s s noK) (hn : n < 400000) :
    Calls Tryd.prog 31 #[.pointer (some ⟨bb, 0, none⟩), .pointer (some ⟨rb, 0, none⟩), .agg #[.int .i64 kd, .string nm, .string lab, .int .i64 dn, .int .i64 dm, .int .u8 (dt.toNat : Int)]] w (DoesS B bb rb n P w) := by
  have HFW := Lib.hid (h.few (by omega))
  have B0 : Below w.heap.size w (w.alloc (.cells #[.int .i64 kd, .string nm, .string lab, .int .i64 dn, .int .i64 dm, .int .u8 (dt.toNat : Int)] 63)) := (Below.refl _ _).alloc (Nat.le_refl _) _
  have hp0 : Pair (w.alloc (.cells #[.int .i64 kd, .string nm, .string lab, .int .i64 dn, .int .i64 dm, .int .u8 (dt.toNat : Int)] 63)) B bb rb P n s s (fun b => b = w.heap.size) := (h.alloc (.cells #[.int .i64 kd, .string nm, .string lab, .int .i64 dn, .int .i64 dm, .int .u8 (dt.toNat : Int)] 63)).sub (fun b hb => .inr hb)
  have HB0 := Lib.hid (B0.mono h.env.size)
  have HP00 := Lib.hid hp0
  have HE0 := Lib.hid h.env.size
  clear h hp0 B0
  have hn9 : decide (kd < 0) = false := decide_eq_false hneg
  have hp9 : 0 ≤ kd := by omega
  have t3 : (kd % 10 == 3) = false := by exact beq_eq_false_iff_ne.2 hr3
  have t4 : (kd % 10 == 4) = false := by exact beq_eq_false_iff_ne.2 hr4
  have t5 : (kd % 10 == 5) = false := by exact beq_eq_false_iff_ne.2 hr5
  have t6 : (kd % 10 == 6) = false := by exact beq_eq_false_iff_ne.2 hr6
  have t7 : (kd % 10 == 7) = false := by exact beq_eq_false_iff_ne.2 hr7
  have t8 : (kd % 10 == 8) = false := by exact beq_eq_false_iff_ne.2 hr8
  have t9 : (kd % 10 == 9) = false := by exact beq_eq_false_iff_ne.2 hr9
  clear hr3 hr4 hr5 hr6 hr7 hr8 hr9
  obtain ⟨v, s2, hR⟩ : ∃ v s2, opR s nm.data.toList dn dm = (v, s2) := ⟨_, _, rfl⟩
  have HRR := Lib.hid hR
  clear hR
  go_enter Tryd.func31, Tryd.ntmps31
  go_wp2_with fail
  have hx : HeldD w.heap.size kd nm lab dn dm dt (w.alloc (.cells #[.int .i64 kd, .string nm, .string lab, .int .i64 dn, .int .i64 dm, .int .u8 (dt.toNat : Int)] 63)).drew := ⟨by simp, by simp, by simp, by simp, by simp, by simp⟩
  have HX := Lib.hid hx
  clear hx
  have HP0 := Lib.hid (HP00.out.later (Below.refl _ _).drew)
  have HB1 := Lib.hid HB0.out.drew
  go_region_held3 (fun W => HeldD w.heap.size kd nm lab dn dm dt W) (first | exact k3 (by assumption) | exact k4 (by assumption) | exact HX.out)
    (first
      | (go_at_call 34; refine (p_op HP0.out (by omega) nm dn dm k2 v s2 HRR.out).mono ?_; rintro e W2 ⟨rfl, hP2, hS2⟩; have HP2 := Lib.hid hP2; have HS2 := Lib.hid hS2; have k4 := fun h => heldD_same (kd := kd) (nm := nm) (lab := lab) (dn := dn) (dm := dm) (dt := dt) hS2 h)
      | (go_at_call 49; refine (q_put HP2.out HFW.out nm dn dm v s2 HRR.out).mono ?_; rintro e W3 ⟨rfl, hP3, hS3⟩; have HP3 := Lib.hid hP3; have HS3 := Lib.hid hS3; have k3 := fun h => heldD_same (kd := kd) (nm := nm) (lab := lab) (dn := dn) (dm := dm) (dt := dt) hS3 h))
  all_goals
    go_wp2_with fail
    go_ret
    exact does_end (by simp) HP3.out (HB1.out.trans (HS2.out.1.trans HS3.out.1))
theorem does_any (d : Deed) (hd : d.ok) {w : World} {B bb rb n : Nat} {P : ByteArray} {s : St} (h : Pair w B bb rb P n s s noK) (hn : n < 400000) :
    Calls Tryd.prog 31 #[.pointer (some ⟨bb, 0, none⟩), .pointer (some ⟨rb, 0, none⟩), .agg #[.int .i64 d.kind, .string d.name, .string d.label, .int .i64 d.n, .int .i64 d.m, .int .u8 (d.t.toNat : Int)]] w (DoesS B bb rb n P w) := by
  obtain ⟨kd, nm, lab, dn, dm, dt⟩ := d
  obtain ⟨k0, k1, k2, k3⟩ := hd
  change -9223372036854775808 ≤ kd at k0
  change kd ≤ 9223372036854775807 at k1
  by_cases hneg : kd < 0
  · rcases (show (-(kd + 1)) % 10 = 3 ∨ (-(kd + 1)) % 10 = 4 ∨ (-(kd + 1)) % 10 = 5 ∨ (-(kd + 1)) % 10 = 6 ∨ (-(kd + 1)) % 10 = 7 ∨ (-(kd + 1)) % 10 = 8 ∨ (-(kd + 1)) % 10 = 9 ∨ ((-(kd + 1)) % 10 ≠ 3 ∧ (-(kd + 1)) % 10 ≠ 4 ∧ (-(kd + 1)) % 10 ≠ 5 ∧ (-(kd + 1)) % 10 ≠ 6 ∧ (-(kd + 1)) % 10 ≠ 7 ∧ (-(kd + 1)) % 10 ≠ 8 ∧ (-(kd + 1)) % 10 ≠ 9) by omega) with hr | hr | hr | hr | hr | hr | hr | ⟨r3, r4, r5, r6, r7, r8, r9⟩
    · exact does_3_n kd nm lab dn dm dt k0 k1 k2 hneg hr h hn
    · exact does_4_n kd nm lab dn dm dt k0 k1 k2 hneg hr h hn
    · exact does_5_n kd nm lab dn dm dt k0 k1 k2 hneg hr h hn
    · exact does_6_n kd nm lab dn dm dt k0 k1 k2 hneg hr h hn
    · exact does_7_n kd nm lab dn dm dt k0 k1 k2 hneg hr h hn
    · exact does_8_n kd nm lab dn dm dt k0 k1 k2 hneg hr h hn
    · exact does_9_n kd nm lab dn dm dt k0 k1 k2 hneg hr h hn
    · exact does_x_n kd nm lab dn dm dt k0 k1 k2 hneg r3 r4 r5 r6 r7 r8 r9 h hn
  · rcases (show kd % 10 = 3 ∨ kd % 10 = 4 ∨ kd % 10 = 5 ∨ kd % 10 = 6 ∨ kd % 10 = 7 ∨ kd % 10 = 8 ∨ kd % 10 = 9 ∨ (kd % 10 ≠ 3 ∧ kd % 10 ≠ 4 ∧ kd % 10 ≠ 5 ∧ kd % 10 ≠ 6 ∧ kd % 10 ≠ 7 ∧ kd % 10 ≠ 8 ∧ kd % 10 ≠ 9) by omega) with hr | hr | hr | hr | hr | hr | hr | ⟨r3, r4, r5, r6, r7, r8, r9⟩
    · exact does_3_p kd nm lab dn dm dt k0 k1 k2 hneg hr h hn
    · exact does_4_p kd nm lab dn dm dt k0 k1 k2 hneg hr h hn
    · exact does_5_p kd nm lab dn dm dt k0 k1 k2 hneg hr h hn
    · exact does_6_p kd nm lab dn dm dt k0 k1 k2 hneg hr h hn
    · exact does_7_p kd nm lab dn dm dt k0 k1 k2 hneg hr h hn
    · exact does_8_p kd nm lab dn dm dt k0 k1 k2 hneg hr h hn
    · exact does_9_p kd nm lab dn dm dt k0 k1 k2 hneg hr h hn
    · exact does_x_p kd nm lab dn dm dt k0 k1 k2 hneg r3 r4 r5 r6 r7 r8 r9 h hn
end Go.Proofs.YtlbgbpgjccbbjaaDoor.Asm
