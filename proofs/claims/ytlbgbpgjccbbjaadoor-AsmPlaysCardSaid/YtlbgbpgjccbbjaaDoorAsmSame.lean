/-
  Two instructions that are the same are told so (the reference's SameInstr); the program's and the reference's Done, held against one another. No condition beyond what each theorem names.
-/
import Derived.Test.YtlbgbpgjccbbjaaDoorAsmRK
import Derived.Test.YtlbgbpgjccbbjaaDoorAsmRight
namespace Go.Proofs.YtlbgbpgjccbbjaaDoor.Asm
open Go.RowKit Go.Maps Go.Proofs.YtlbgbpgjccbbjaaDoor.Op
set_option linter.unusedVariables false
set_option maxRecDepth 100000 in
set_option maxHeartbeats 2000000 in
theorem same_refl (o a b : Int) (w : World) :
    Calls Tryd.prog 51 #[.agg #[.int .i64 o, .int .i64 a, .int .i64 b, .slice none 0 0], .agg #[.int .i64 o, .int .i64 a, .int .i64 b, .slice none 0 0]] w fun e w' => e = .returned (.bool true) ∧ Below w.heap.size w w' := by
  have b1 : (o != o) = false := by simp
  have b2 : (a != a) = false := by simp
  have b3 : (b != b) = false := by simp
  go_enter Tryd.func51, Tryd.ntmps51
  go_wp2_with fail
  refine wp_loop_rounds 1 ?_
  rw [rounds_succ]
  go_wp2_with fail
  go_ret
  exact ⟨rfl, ((Below.refl _ _).alloc (Nat.le_refl _) _).alloc (by simp) _⟩
theorem doneOk_cases {s : St} {kd : Int} (h : doneBad s kd = false) : s.opens = [] ∧ 0 ≤ kd ∧ kd < 4294967296 := by
  simp only [doneBad, Bool.or_eq_false_iff, Bool.not_eq_false', decide_eq_false_iff_not, List.isEmpty_iff] at h
  exact ⟨h.1.1, by omega, by omega⟩
theorem AtK.few {w : World} {B bb n : Nat} {s : St} {K : Nat → Prop} (h : AtK w B bb n s K) (hn : n < 500000) : Few s := by
  obtain ⟨x, _, _, _, h1, h2, h3, h4⟩ := h
  exact ⟨h1, h2, h3, by omega⟩
theorem Pair.few {w : World} {B bb rb n : Nat} {P : ByteArray} {s t : St} {K : Nat → Prop} (h : Pair w B bb rb P n s t K) (hn : n < 500000) : Few s := by
  obtain ⟨y, h1, _⟩ := h
  exact h1.few hn
theorem k_done_bad {w : World} {B bb n : Nat} {s : St} {K : Nat → Prop} (h : AtK w B bb n s K) (kd : Int) (hb : doneBad s kd = true) :
    Calls Tryd.prog 25 #[.pointer (some ⟨bb, 0, none⟩), .int .i64 kd] w (ZeroF w) := by
  obtain ⟨x, h1, _, _, h4, _⟩ := h
  exact done_bad kd w B bb x n s h1 (by omega) hb
set_option maxRecDepth 100000 in
set_option maxHeartbeats 2000000 in
theorem pdone_bad {w : World} {B bb rb n : Nat} {P : ByteArray} {s : St} {K : Nat → Prop} (h : Pair w B bb rb P n s s K) (hn : n < 400000) (kd : Int) (hb : doneBad s kd = true) :
    Calls Tryd.prog 33 #[.pointer (some ⟨bb, 0, none⟩), .pointer (some ⟨rb, 0, none⟩), .int .i64 kd] w fun e w' => e = .returned (.bool true) ∧ Below w.heap.size w w' := by
  have HF := Lib.hid (h.few (by omega))
  obtain ⟨y, hA, hR, hD⟩ := h
  have HA := Lib.hid hA
  have HR := Lib.hid hR
  have HX := Lib.hid hb
  clear hA hR hD hb
  go_enter Tryd.func33, Tryd.ntmps33
  go_wp2_with fail
  refine (k_done_bad HA.out kd HX.out).mono ?_
  rintro e w1 ⟨rfl, c1⟩
  have HB1 := Lib.hid (c1.alloc c1.size (.cells #[.int .i64 0, .string ⟨#[]⟩, .slice none 0 0] 51))
  have HR1 := Lib.hid ((HR.out.later c1).later ((Below.refl _ _).alloc (Nat.le_refl _) (.cells #[.int .i64 0, .string ⟨#[]⟩, .slice none 0 0] 51)))
  clear c1
  go_wp2_with fail
  refine (rdone_bad kd _ B rb P y s HR1.out (by have := HF.out.1; omega) HX.out).mono ?_
  rintro e w3 ⟨rfl, c3⟩
  have x0 : w3.cell? ⟨w1.heap.size, 0, none⟩ = some (.int .i64 0) := cell_later c3 (by simp)
  have x1 : w3.cell? ⟨w1.heap.size, 1, none⟩ = some (.string ⟨#[]⟩) := cell_later c3 (by simp)
  have x2 : w3.cell? ⟨w1.heap.size, 2, none⟩ = some (.slice none 0 0) := cell_later c3 (by simp)
  have hlt : w1.heap.size < w3.heap.size := by have := c3.size; simp at this; omega
  have HB3 := Lib.hid (HB1.out.trans (c3.mono HB1.out.size))
  clear c3
  go_wp2_with fail
  refine wp_loop_rounds 1 ?_
  rw [rounds_succ]
  go_wp2_with fail
  go_ret
  exact ⟨rfl, HB3.out.alloc HB3.out.size _⟩
set_option maxRecDepth 100000 in
set_option maxHeartbeats 8000000 in
theorem pdone_ok {w : World} {B bb rb n : Nat} {P : ByteArray} {s : St} {K : Nat → Prop} (h : Pair w B bb rb P n s s K) (hn : n < 400000) (kd : Int) (hb : doneBad s kd = false) :
    Calls Tryd.prog 33 #[.pointer (some ⟨bb, 0, none⟩), .pointer (some ⟨rb, 0, none⟩), .int .i64 kd] w fun e w' => e = .returned (.bool true) ∧ Below w.heap.size w w' := by
  obtain ⟨h0, hk0, hk1⟩ := doneOk_cases hb
  have HF := Lib.hid (h.few (by omega))
  have HOP := Lib.hid h0
  obtain ⟨y, hA, hR, hD⟩ := h
  have HA := Lib.hid hA
  have HR := Lib.hid hR
  have b1 : (kd != kd) = false := by simp
  clear hA hR hD hb h0
  go_enter Tryd.func33, Tryd.ntmps33
  go_wp2_with fail
  refine (k_done HA.out (by omega) kd HOP.out hk0 hk1).mono ?_
  rintro e w1 ⟨g, cap, rfl, ho, hA1, c1⟩
  have HR1 := Lib.hid (HR.out.later c1)
  have HB1 := Lib.hid c1
  have hgl := (ho.lt g rfl).2
  obtain ⟨L, hL⟩ : ∃ L, s.code.length = L := ⟨_, rfl⟩
  obtain ⟨LS, hLS⟩ : ∃ LS : ByteArray, (⟨s.locals.toArray⟩ : ByteArray) = LS := ⟨_, rfl⟩
  have HLL := Lib.hid hL
  have HLS := Lib.hid hLS
  have hLn : L < 500000 := by have := HF.out.2.2.2; omega
  rw [hL] at ho
  rw [hL, hLS]
  have HC1 := Lib.hid (fun i m hm j hj => row_cell ho (i := i) (m := m) hm j hj)
  clear hA1 c1 ho hL hLS
  go_wp2_with fail
  refine (rdone_ok kd _ B rb P y s (HR1.out.later ((Below.refl _ _).alloc (Nat.le_refl _) _)) HOP.out (by have := HF.out.2.2.2; omega) hk0 hk1).mono ?_
  rintro e w3 ⟨g2, cap2, rfl, ho2, c3⟩
  rw [HLL.out] at ho2
  rw [HLL.out, HLS.out]
  have x0 : w3.cell? ⟨w1.heap.size, 0, none⟩ = some (.int .i64 kd) := cell_later c3 (by simp)
  have x1 : w3.cell? ⟨w1.heap.size, 1, none⟩ = some (.string LS) := cell_later c3 (by simp)
  have x2 : w3.cell? ⟨w1.heap.size, 2, none⟩ = some (.slice (some ⟨g, 0, none⟩) (L + 1) cap) := cell_later c3 (by simp)
  have hlt : w1.heap.size < w3.heap.size := by have := c3.size; simp at this; omega
  have hg2 := (ho2.lt g2 rfl).2
  have HB3 := Lib.hid ((HB1.out.alloc HB1.out.size (.cells #[.int .i64 kd, .string LS, .slice (some ⟨g, 0, none⟩) (L + 1) cap] 51)).trans (c3.mono (HB1.out.alloc HB1.out.size (.cells #[.int .i64 kd, .string LS, .slice (some ⟨g, 0, none⟩) (L + 1) cap] 51)).size))
  have HC3 := Lib.hid (fun i m (hm : (s.code ++ [(⟨11, 0, 0⟩ : Ins)])[i]? = some m) j (hj : j < 4) => row_later ((World.cell?_alloc_past (.cells #[.int .i64 kd, .string LS, .slice (some ⟨g, 0, none⟩) (L + 1) cap] 51) _ _ hgl).trans (HC1.out i m hm j hj)) c3 hj)
  have HD3 := Lib.hid (fun i m hm j hj => row_cell ho2 (i := i) (m := m) hm j hj)
  clear c3 ho2
  go_wp2_with fail
  have p2 : (w3.alloc (.cells #[.int .i64 kd, .string LS, .slice (some ⟨g2, 0, none⟩) (L + 1) cap2] 51)).cell? ⟨w1.heap.size, 2, none⟩ = some (.slice (some ⟨g, 0, none⟩) (L + 1) cap) := (World.cell?_alloc_past _ _ _ hlt).trans x2
  have q2 : (w3.alloc (.cells #[.int .i64 kd, .string LS, .slice (some ⟨g2, 0, none⟩) (L + 1) cap2] 51)).cell? ⟨w3.heap.size, 2, none⟩ = some (.slice (some ⟨g2, 0, none⟩) (L + 1) cap2) := by simp
  have HB4 := Lib.hid (HB3.out.alloc HB3.out.size (.cells #[.int .i64 kd, .string LS, .slice (some ⟨g2, 0, none⟩) (L + 1) cap2] 51))
  have hg1 : g < w3.heap.size := Nat.lt_trans hgl (by have := hlt; omega)
  have HC4 := Lib.hid (fun i m (hm : (s.code ++ [(⟨11, 0, 0⟩ : Ins)])[i]? = some m) j (hj : j < 4) => (World.cell?_alloc_past (.cells #[.int .i64 kd, .string LS, .slice (some ⟨g2, 0, none⟩) (L + 1) cap2] 51) _ _ hg1).trans (HC3.out i m hm j hj))
  have HD4 := Lib.hid (fun i m (hm : (s.code ++ [(⟨11, 0, 0⟩ : Ins)])[i]? = some m) j (hj : j < 4) => (World.cell?_alloc_past (.cells #[.int .i64 kd, .string LS, .slice (some ⟨g2, 0, none⟩) (L + 1) cap2] 51) _ _ hg2).trans (HD3.out i m hm j hj))
  obtain ⟨w4, hw4⟩ : ∃ w4, w3.alloc (.cells #[.int .i64 kd, .string LS, .slice (some ⟨g2, 0, none⟩) (L + 1) cap2] 51) = w4 := ⟨_, rfl⟩
  rw [hw4] at p2 q2 HB4 HC4 HD4 ⊢
  have P2 := Lib.hid p2
  have Q2 := Lib.hid q2
  clear hw4 x0 x1 x2 p2 q2
  go_loopw [11] (fun i wr => RelZ w4 L i wr) (fun i _ => L + 1 - (intOf i).toNat)
  case atStart => exact ⟨0, Nat.zero_le _, rfl, Below.refl _ _⟩
  case round =>
    obtain ⟨q, hq, rfl, hZ⟩ := hrel
    have HZ := Lib.hid hZ
    have z2 : wr.cell? ⟨w1.heap.size, 2, none⟩ = some (.slice (some ⟨g, 0, none⟩) (L + 1) cap) := cell_later hZ P2.out
    have z3 : wr.cell? ⟨w3.heap.size, 2, none⟩ = some (.slice (some ⟨g2, 0, none⟩) (L + 1) cap2) := cell_later hZ Q2.out
    by_cases hlq : q < L + 1
    · obtain ⟨⟨mo, ma, mb⟩, hm⟩ : ∃ m, (s.code ++ [(⟨11, 0, 0⟩ : Ins)])[q]? = some m := ⟨_, List.getElem?_eq_getElem (by rw [List.length_append, HLL.out]; exact hlq)⟩
      have y0 : wr.cell? ⟨g, q * 4, none⟩ = some (.int .i64 mo) := row_later (j := 0) (HC4.out q _ hm 0 (by decide)) hZ (by decide)
      have y1 : wr.cell? ⟨g, q * 4 + 1, none⟩ = some (.int .i64 ma) := row_later (j := 1) (HC4.out q _ hm 1 (by decide)) hZ (by decide)
      have y2 : wr.cell? ⟨g, q * 4 + 2, none⟩ = some (.int .i64 mb) := row_later (j := 2) (HC4.out q _ hm 2 (by decide)) hZ (by decide)
      have y3 : wr.cell? ⟨g, q * 4 + 3, none⟩ = some (.slice none 0 0) := row_later (j := 3) (HC4.out q _ hm 3 (by decide)) hZ (by decide)
      have v0 : wr.cell? ⟨g2, q * 4, none⟩ = some (.int .i64 mo) := row_later (j := 0) (HD4.out q _ hm 0 (by decide)) hZ (by decide)
      have v1 : wr.cell? ⟨g2, q * 4 + 1, none⟩ = some (.int .i64 ma) := row_later (j := 1) (HD4.out q _ hm 1 (by decide)) hZ (by decide)
      have v2 : wr.cell? ⟨g2, q * 4 + 2, none⟩ = some (.int .i64 mb) := row_later (j := 2) (HD4.out q _ hm 2 (by decide)) hZ (by decide)
      have v3 : wr.cell? ⟨g2, q * 4 + 3, none⟩ = some (.slice none 0 0) := row_later (j := 3) (HD4.out q _ hm 3 (by decide)) hZ (by decide)
      have hdq : decide ((q : Int) < (L : Int) + 1) = true := decide_eq_true (by omega)
      have hq0 : (q : Int) < (L : Int) + 1 := by omega
      clear hm hZ
      go_wp2_with fail
      go_still_tail 10, (by kernel_rfl)
      change wpList _ _ _ _ _ wr.drew
      go_wp2_with fail
      refine (same_refl mo ma mb _).mono ?_
      rintro e w10 ⟨rfl, c10⟩
      have HZ2 := Lib.hid (HZ.out.drew.trans (c10.mono HZ.out.drew.size))
      clear c10
      go_wp2_with fail
      go_roundw
      case rel => exact ⟨q + 1, by omega, by go_num, HZ2.out⟩
      case measure => simp [intOf]; omega
    · obtain rfl : q = L + 1 := by omega
      have hdq : decide ((L : Int) + 1 < (L : Int) + 1) = false := by simp
      clear hZ
      go_wp2_with fail
      go_ret
      exact ⟨rfl, HB4.out.trans (HZ.out.mono HB4.out.size)⟩
/-- both Done, held against one another -/
theorem pdone_any {w : World} {B bb rb n : Nat} {P : ByteArray} {s : St} {K : Nat → Prop} (h : Pair w B bb rb P n s s K) (hn : n < 400000) (kd : Int) :
    Calls Tryd.prog 33 #[.pointer (some ⟨bb, 0, none⟩), .pointer (some ⟨rb, 0, none⟩), .int .i64 kd] w fun e w' => e = .returned (.bool true) ∧ Below w.heap.size w w' := by
  cases hb : doneBad s kd
  · exact pdone_ok h hn kd hb
  · exact pdone_bad h hn kd hb
end Go.Proofs.YtlbgbpgjccbbjaaDoor.Asm
