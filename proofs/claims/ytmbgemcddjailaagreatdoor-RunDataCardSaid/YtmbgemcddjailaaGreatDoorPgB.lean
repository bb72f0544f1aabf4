/-
  What a program's want does. No condition beyond what each theorem names.
-/
import Derived.Test.YtmbgemcddjailaaGreatDoorPgA
namespace Go.Proofs.YtmbgemcddjailaaGreatDoor.Pg
open Go.RowKit Go.Maps Go.Proofs.YtmbgemcddjailaaGreatDoor.Op Go.Proofs.YtmbgemcddjailaaGreatDoor.Mod
set_option linter.unusedVariables false
theorem Inv.bounds {s : St} {n : Nat} (h : Inv s n) (hn : n ≤ 900000) : s.code.length < 1000000 ∧ s.stack.length < 1000000 ∧ s.opens.length < 1000000 := by
  have := h.size
  omega
theorem put_bounds {s : St} {op a b : Int} : (putP s op a b).stack = s.stack ∧ (putP s op a b).opens = s.opens := ⟨rfl, rfl⟩
set_option maxRecDepth 100000 in
set_option maxHeartbeats 2000000 in
theorem want_none (k : Nat) (w : World) (B bb : Nat) (x : Px) (s : St) (n : Nat) (hI : Inv s n) (hn : n ≤ 900000) (h : PAt w B bb x s) (hB : B ≤ w.heap.size) (h0 : hasP s = 0) (hk : k < 256) :
    Calls Tryz.prog 50 #[.pointer (some ⟨bb, 0, none⟩), .int .u8 (k : Int)] w fun e w' => e = .returned (.tuple #[]) ∧ Upd w B bb x { s with code := s.code ++ [⟨192 - (k : Int), 7, 0⟩], stack := s.stack ++ [k] } w' := by
  obtain ⟨q1, q2, q3⟩ := hI.bounds hn
  have ht := hI.top_le
  have HS := Lib.hid (fun (W : World) (hb : Below w.heap.size w W) => has_any W B bb x s (h.later hb) q2 q3 ht)
  have HB0 := Lib.hid (Below.refl w.heap.size w)
  rw [h0] at HS
  have hc1 := fun (W : World) (hb : Below w.heap.size w W) => (h.later hb).cells
  obtain ⟨a, cap, hx, hcap, _⟩ := h.stackForm
  obtain ⟨i0, hi, hz0, hz1, hz2⟩ := info_of info_u8
  obtain ⟨cv, sv, ov⟩ := x
  have hx2 : sv = .slice a s.stack.length cap := hx
  subst hx2
  obtain ⟨_, c1, _⟩ := h.cells
  have H := Lib.hid h
  clear h hx hcap hc1 ht h0
  go_enter Tryz.func50, Tryz.ntmps50
  go_wp2_with fail
  refine (HS.out w HB0.out).mono ?_
  rintro e1 w1 ⟨rfl, b1⟩
  have HB1 := Lib.hid (HB0.out.trans (b1.mono HB0.out.size))
  clear b1
  go_wp2_with fail
  refine (HS.out w1 HB1.out).mono ?_
  rintro e2 w2 ⟨rfl, b2⟩
  have HB2 := Lib.hid (HB1.out.trans (b2.mono HB1.out.size))
  clear b2
  go_wp2_with fail
  refine (HS.out w2 HB2.out).mono ?_
  rintro e3 w3 ⟨rfl, b3⟩
  have HB3 := Lib.hid (HB2.out.trans (b3.mono HB2.out.size))
  clear b3
  go_wp2_with fail
  refine (put_any (192 - (k : Int)) 7 0 w3 B bb _ s (H.out.later HB3.out) (Nat.le_trans hB HB3.out.size) q1).mono ?_
  rintro e4 w4 ⟨rfl, u4⟩
  have HU4 := Lib.hid (Upd.after HB3.out u4)
  clear u4
  obtain ⟨⟨cv4, sv4, ov4⟩, hA4, hf4, hk4⟩ := HU4.out
  have HA4 := Lib.hid hA4
  have HF4 := Lib.hid hf4
  have HK4 := Lib.hid hk4
  obtain ⟨_, d1, _⟩ := hA4.cells
  have D1 := Lib.hid d1
  have HS4 := Lib.hid (show (putP s (192 - (k : Int)) 7 0).stack.length = s.stack.length from rfl)
  have HC4 := Lib.hid (show (putP s (192 - (k : Int)) 7 0).stack.length + 1 ≤ maxLen by rw [HS4.out]; unfold maxLen; omega)
  have HC5 := Lib.hid (show ((putP s (192 - (k : Int)) 7 0).stack.length + 1) * 1 ≤ 140737488355328 by rw [HS4.out]; omega)
  have HC6 := Lib.hid (show B ≤ (w4.alloc (.cells #[.int .u8 (k : Int)] 5)).heap.size by have := hk4.size; simp; omega)
  have HN := Lib.hid (news_at w4 #[.int .u8 (k : Int)] 5 [.int .u8 (k : Int)] rfl)
  clear hA4 hf4 hk4 c1 HU4
  go_wp2_with (at_builtin; refine wpList_append_own2 _ rfl _ _ 83 rfl B 5 i0 (.int .u8 0) 1 1 Tryz.underlying83 hi hz0 hz1 hz2 rfl (by decide) _ _ _ rfl (HA4.out.stk.alloc _) ⟨w4.heap.size, 0, none⟩ 1 1 [.int .u8 (k : Int)] rfl rfl HN.out (by intro u hu; rw [List.mem_singleton.1 hu]; rfl) (by decide) HC4.out HC5.out HC6.out ?_)
  intro v' w5 hown hgrow hnb
  obtain ⟨g', cap', rfl⟩ := Go.Joins.ownsRow_form hown (by omega)
  have hne : sv4.ownBlock ≠ some bb := fun e => (HA4.out.rest.2.1 bb e).1 rfl
  have hbx : w5.heap[bb]? = w4.heap[bb]? := (grown_alloc hgrow).block bb HA4.out.lt (Ne.symm hne)
  have fz1 : w5.frozen? ⟨bb, 1, none⟩ = false := (World.frozen?_of_block (a := ⟨bb, 1, none⟩) hbx).trans (HA4.out.frozen 1)
  have cz : w5.cell? ⟨bb, 1, none⟩ = some sv4 := (World.cell?_of_block (a := ⟨bb, 1, none⟩) hbx).trans D1.out
  have HU := Lib.hid (Upd.trans HF4.out HK4.out (HA4.out.setStk (l := s.stack ++ [k]) (grown_alloc hgrow) (by rw [stackV_snoc, List.length_append]; exact hown) (newBlock_mono hnb (by simp))))
  clear hown hgrow hnb hne hbx d1
  go_wp2_with fail
  go_end0
  exact ⟨rfl, HU.out⟩
set_option maxRecDepth 100000 in
set_option maxHeartbeats 2000000 in
theorem want_has (k : Nat) (w : World) (B bb : Nat) (x : Px) (s : St) (n : Nat) (hI : Inv s n) (hn : n ≤ 900000) (h : PAt w B bb x s) (hB : B ≤ w.heap.size) (h0 : 0 < hasP s) (hl : s.stack.getLast? = some k) :
    Calls Tryz.prog 50 #[.pointer (some ⟨bb, 0, none⟩), .int .u8 (k : Int)] w fun e w' => e = .returned (.tuple #[]) ∧ Upd w B bb x s w' := by
  obtain ⟨q1, q2, q3⟩ := hI.bounds hn
  have ht := hI.top_le
  have HS := Lib.hid (fun (W : World) (hb : Below w.heap.size w W) => has_any W B bb x s (h.later hb) q2 q3 ht)
  have HB0 := Lib.hid (Below.refl w.heap.size w)
  obtain ⟨a, cap, hx, hcap, hform⟩ := h.stackForm
  have hpos : 0 < s.stack.length := by unfold hasP at h0; omega
  obtain ⟨g, rfl, hg, hgl, hcl, hfz⟩ := hform hpos
  obtain ⟨L, hL⟩ : ∃ L, s.stack.length = L + 1 := ⟨s.stack.length - 1, by omega⟩
  have hlx : s.stack[L]? = some k := by rw [List.getLast?_eq_getElem?, hL] at hl; simpa using hl
  have e0 := hcl L _ hlx
  have f0 := hfz L
  obtain ⟨cv, sv, ov⟩ := x
  have hx2 : sv = .slice (some ⟨g, 0, none⟩) (L + 1) cap := by rw [← hL]; exact hx
  subst hx2
  have hLx : L < 1000000 := by omega
  have hpos2 : decide (0 < ((hasP s : Nat) : Int)) = true := decide_eq_true (by omega)
  obtain ⟨_, c1, _⟩ := h.cells
  have H := Lib.hid h
  have C1 := Lib.hid c1
  have E0 := Lib.hid e0
  have HLL := Lib.hid hL
  have HLX := Lib.hid hlx
  have HG := Lib.hid hg
  clear h hx hcap hform hcl hfz hlx ht e0 f0 hg
  clear hL hl
  go_enter Tryz.func50, Tryz.ntmps50
  go_wp2_with fail
  refine (HS.out w HB0.out).mono ?_
  rintro e1 w1 ⟨rfl, b1⟩
  have HB1 := Lib.hid (HB0.out.trans (b1.mono HB0.out.size))
  clear b1
  clear c1
  have c1' : w1.cell? ⟨bb, 1, none⟩ = some (.slice (some ⟨g, 0, none⟩) (L + 1) cap) := cell_later HB1.out C1.out
  have e0' : w1.cell? ⟨g, L, none⟩ = some (.int .u8 (k : Int)) := cell_later HB1.out E0.out
  go_wp2_with fail
  refine bodyPost_ret (results_none rfl _ _ _) rfl ⟨rfl, ?_⟩
  exact Upd.below H.out HB1.out
set_option maxRecDepth 100000 in
set_option maxHeartbeats 2000000 in
theorem want_c (w : World) (B bb : Nat) (x : Px) (s : St) (n : Nat) (hI : Inv s n) (hn : n ≤ 900000) (h : PAt w B bb x s) (hB : B ≤ w.heap.size) (h0 : 0 < hasP s) (hl : s.stack.getLast? = some 126) :
    Calls Tryz.prog 50 #[.pointer (some ⟨bb, 0, none⟩), .int .u8 127] w fun e w' => e = .returned (.tuple #[]) ∧ Upd w B bb x { s with code := s.code ++ [⟨167, 0, 0⟩], stack := s.stack.dropLast ++ [127] } w' := by
  obtain ⟨q1, q2, q3⟩ := hI.bounds hn
  have ht := hI.top_le
  have HS := Lib.hid (fun (W : World) (hb : Below w.heap.size w W) => has_any W B bb x s (h.later hb) q2 q3 ht)
  have HB0 := Lib.hid (Below.refl w.heap.size w)
  obtain ⟨a, cap, hx, hcap, hform⟩ := h.stackForm
  have hpos : 0 < s.stack.length := by unfold hasP at h0; omega
  obtain ⟨g, rfl, hg, hgl, hcl, hfz⟩ := hform hpos
  obtain ⟨L, hL⟩ : ∃ L, s.stack.length = L + 1 := ⟨s.stack.length - 1, by omega⟩
  have hlx : s.stack[L]? = some 126 := by rw [List.getLast?_eq_getElem?, hL] at hl; simpa using hl
  have e0 := hcl L _ hlx
  have f0 := hfz L
  obtain ⟨cv, sv, ov⟩ := x
  have hx2 : sv = .slice (some ⟨g, 0, none⟩) (L + 1) cap := by rw [← hL]; exact hx
  subst hx2
  have hLx : L < 1000000 := by omega
  have hpos2 : decide (0 < ((hasP s : Nat) : Int)) = true := decide_eq_true (by omega)
  obtain ⟨_, c1, _⟩ := h.cells
  have H := Lib.hid h
  have C1 := Lib.hid c1
  have E0 := Lib.hid e0
  have HLL := Lib.hid hL
  have HLX := Lib.hid hlx
  have HG := Lib.hid hg
  clear h hx hcap hform hcl hfz hlx ht e0 f0 hg
  have HLS := Lib.hid (show s.stack.set L 127 = s.stack.dropLast ++ [127] by
    rcases List.eq_nil_or_concat s.stack with he | ⟨l0, z, he⟩
    · rw [he] at hL; simp at hL
    · rw [List.concat_eq_append] at he
      rw [he] at hL ⊢
      simp at hL
      subst hL
      simp)
  clear hL hl
  go_enter Tryz.func50, Tryz.ntmps50
  go_wp2_with fail
  refine (HS.out w HB0.out).mono ?_
  rintro e1 w1 ⟨rfl, b1⟩
  have HB1 := Lib.hid (HB0.out.trans (b1.mono HB0.out.size))
  clear b1
  clear c1
  have c1' : w1.cell? ⟨bb, 1, none⟩ = some (.slice (some ⟨g, 0, none⟩) (L + 1) cap) := cell_later HB1.out C1.out
  have e0' : w1.cell? ⟨g, L, none⟩ = some (.int .u8 126) := cell_later HB1.out E0.out
  go_wp2_with fail
  refine (HS.out w1 HB1.out).mono ?_
  rintro e2 w2 ⟨rfl, b2⟩
  have HB2 := Lib.hid (HB1.out.trans (b2.mono HB1.out.size))
  clear b2
  clear c1' e0'
  go_wp2_with fail
  refine (put_any 167 0 0 w2 B bb _ s (H.out.later HB2.out) (Nat.le_trans hB HB2.out.size) q1).mono ?_
  rintro e4 w4 ⟨rfl, u4⟩
  have HU4 := Lib.hid (Upd.after HB2.out u4)
  clear u4
  obtain ⟨x4, hA4, hf4, hk4⟩ := HU4.out
  obtain ⟨a4, cap4, hx4, _, hform4⟩ := hA4.stackForm
  have hpos4 : 0 < (putP s 167 0 0).stack.length := hpos
  obtain ⟨g4, rfl, hg4, hgl4, hcl4, hfz4⟩ := hform4 hpos4
  have e4 := hcl4 L _ HLX.out
  have f4 := hfz4 L
  have HUI := Lib.hid (hA4.inStk hg4 (j := L) (k := 127) (by show L < s.stack.length; rw [HLL.out]; omega))
  obtain ⟨cv4, sv4, ov4⟩ := x4
  have hx5 : sv4 = .slice (some ⟨g4, 0, none⟩) (L + 1) cap4 := by rw [← HLL.out]; exact hx4
  subst hx5
  obtain ⟨_, d1, _⟩ := hA4.cells
  have HF4 := Lib.hid hf4
  have HK4 := Lib.hid hk4
  have HU := Lib.hid (Upd.trans HF4.out HK4.out HUI.out)
  clear hA4 hf4 hk4 hx4 hform4 hpos4 hg4 hcl4 hfz4 HUI HU4 hpos
  go_wp2_with fail
  refine bodyPost_ret (results_none rfl _ _ _) rfl ⟨rfl, ?_⟩
  have hu := HU.out
  rw [show (putP s 167 0 0).stack.set L 127 = s.stack.dropLast ++ [127] from HLS.out] at hu
  exact hu
set_option maxRecDepth 100000 in
set_option maxHeartbeats 2000000 in
theorem want_d (w : World) (B bb : Nat) (x : Px) (s : St) (n : Nat) (hI : Inv s n) (hn : n ≤ 900000) (h : PAt w B bb x s) (hB : B ≤ w.heap.size) (h0 : 0 < hasP s) (hl : s.stack.getLast? = some 127) :
    Calls Tryz.prog 50 #[.pointer (some ⟨bb, 0, none⟩), .int .u8 126] w fun e w' => e = .returned (.tuple #[]) ∧ Upd w B bb x { s with code := s.code ++ [⟨173, 0, 0⟩], stack := s.stack.dropLast ++ [126] } w' := by
  obtain ⟨q1, q2, q3⟩ := hI.bounds hn
  have ht := hI.top_le
  have HS := Lib.hid (fun (W : World) (hb : Below w.heap.size w W) => has_any W B bb x s (h.later hb) q2 q3 ht)
  have HB0 := Lib.hid (Below.refl w.heap.size w)
  obtain ⟨a, cap, hx, hcap, hform⟩ := h.stackForm
  have hpos : 0 < s.stack.length := by unfold hasP at h0; omega
  obtain ⟨g, rfl, hg, hgl, hcl, hfz⟩ := hform hpos
  obtain ⟨L, hL⟩ : ∃ L, s.stack.length = L + 1 := ⟨s.stack.length - 1, by omega⟩
  have hlx : s.stack[L]? = some 127 := by rw [List.getLast?_eq_getElem?, hL] at hl; simpa using hl
  have e0 := hcl L _ hlx
  have f0 := hfz L
  obtain ⟨cv, sv, ov⟩ := x
  have hx2 : sv = .slice (some ⟨g, 0, none⟩) (L + 1) cap := by rw [← hL]; exact hx
  subst hx2
  have hLx : L < 1000000 := by omega
  have hpos2 : decide (0 < ((hasP s : Nat) : Int)) = true := decide_eq_true (by omega)
  obtain ⟨_, c1, _⟩ := h.cells
  have H := Lib.hid h
  have C1 := Lib.hid c1
  have E0 := Lib.hid e0
  have HLL := Lib.hid hL
  have HLX := Lib.hid hlx
  have HG := Lib.hid hg
  clear h hx hcap hform hcl hfz hlx ht e0 f0 hg
  have HLS := Lib.hid (show s.stack.set L 126 = s.stack.dropLast ++ [126] by
    rcases List.eq_nil_or_concat s.stack with he | ⟨l0, z, he⟩
    · rw [he] at hL; simp at hL
    · rw [List.concat_eq_append] at he
      rw [he] at hL ⊢
      simp at hL
      subst hL
      simp)
  clear hL hl
  go_enter Tryz.func50, Tryz.ntmps50
  go_wp2_with fail
  refine (HS.out w HB0.out).mono ?_
  rintro e1 w1 ⟨rfl, b1⟩
  have HB1 := Lib.hid (HB0.out.trans (b1.mono HB0.out.size))
  clear b1
  clear c1
  have c1' : w1.cell? ⟨bb, 1, none⟩ = some (.slice (some ⟨g, 0, none⟩) (L + 1) cap) := cell_later HB1.out C1.out
  have e0' : w1.cell? ⟨g, L, none⟩ = some (.int .u8 127) := cell_later HB1.out E0.out
  go_wp2_with fail
  refine (HS.out w1 HB1.out).mono ?_
  rintro e2 w2 ⟨rfl, b2⟩
  have HB2 := Lib.hid (HB1.out.trans (b2.mono HB1.out.size))
  clear b2
  go_wp2_with fail
  refine (HS.out w2 HB2.out).mono ?_
  rintro e3 w3 ⟨rfl, b3⟩
  have HB3 := Lib.hid (HB2.out.trans (b3.mono HB2.out.size))
  clear b3
  clear c1' e0'
  go_wp2_with fail
  refine (put_any 173 0 0 w3 B bb _ s (H.out.later HB3.out) (Nat.le_trans hB HB3.out.size) q1).mono ?_
  rintro e4 w4 ⟨rfl, u4⟩
  have HU4 := Lib.hid (Upd.after HB3.out u4)
  clear u4
  obtain ⟨x4, hA4, hf4, hk4⟩ := HU4.out
  obtain ⟨a4, cap4, hx4, _, hform4⟩ := hA4.stackForm
  have hpos4 : 0 < (putP s 173 0 0).stack.length := hpos
  obtain ⟨g4, rfl, hg4, hgl4, hcl4, hfz4⟩ := hform4 hpos4
  have e4 := hcl4 L _ HLX.out
  have f4 := hfz4 L
  have HUI := Lib.hid (hA4.inStk hg4 (j := L) (k := 126) (by show L < s.stack.length; rw [HLL.out]; omega))
  obtain ⟨cv4, sv4, ov4⟩ := x4
  have hx5 : sv4 = .slice (some ⟨g4, 0, none⟩) (L + 1) cap4 := by rw [← HLL.out]; exact hx4
  subst hx5
  obtain ⟨_, d1, _⟩ := hA4.cells
  have HF4 := Lib.hid hf4
  have HK4 := Lib.hid hk4
  have HU := Lib.hid (Upd.trans HF4.out HK4.out HUI.out)
  clear hA4 hf4 hk4 hx4 hform4 hpos4 hg4 hcl4 hfz4 HUI HU4 hpos
  go_wp2_with fail
  refine bodyPost_ret (results_none rfl _ _ _) rfl ⟨rfl, ?_⟩
  have hu := HU.out
  rw [show (putP s 173 0 0).stack.set L 126 = s.stack.dropLast ++ [126] from HLS.out] at hu
  exact hu
theorem want_any (k : Nat) (w : World) (B bb : Nat) (x : Px) (s : St) (n : Nat) (hI : Inv s n) (hn : n ≤ 900000) (h : PAt w B bb x s) (hB : B ≤ w.heap.size) (hk : k = 126 ∨ k = 127) :
    Calls Tryz.prog 50 #[.pointer (some ⟨bb, 0, none⟩), .int .u8 (k : Int)] w fun e w' => e = .returned (.tuple #[]) ∧ Upd w B bb x (wantP s k) w' := by
  unfold wantP
  by_cases h0 : hasP s = 0
  · rw [if_pos h0]
    exact want_none k w B bb x s n hI hn h hB h0 (by omega)
  · rw [if_neg h0]
    by_cases hl : s.stack.getLast? = some k
    · rw [if_pos hl]
      exact want_has k w B bb x s n hI hn h hB (by omega) hl
    · rw [if_neg hl]
      have hpos : s.stack ≠ [] := by intro he; unfold hasP at h0; rw [he] at h0; simp at h0
      obtain ⟨z, hz⟩ : ∃ z, s.stack.getLast? = some z := by
        cases hq : s.stack.getLast? with
        | none => exact absurd (List.getLast?_eq_none_iff.1 hq) hpos
        | some z => exact ⟨z, rfl⟩
      have hzk := hI.ks z (List.mem_of_getLast? hz)
      rcases hk with rfl | rfl
      · rw [if_neg (by decide)]
        have hz2 : z = 127 := by
          rcases hzk with rfl | h1
          · exact absurd hz hl
          · exact h1
        exact want_d w B bb x s n hI hn h hB (by omega) (by rw [hz, hz2])
      · rw [if_pos rfl]
        have hz2 : z = 126 := by
          rcases hzk with h1 | rfl
          · exact h1
          · exact absurd hz hl
        exact want_c w B bb x s n hI hn h hB (by omega) (by rw [hz, hz2])
end Go.Proofs.YtmbgemcddjailaaGreatDoor.Pg
