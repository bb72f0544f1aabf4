/-
  The reference's truth, value, Not, And, Or of chapter 10. No condition beyond what each theorem names.
-/
import Derived.Test.YtekpdcofjhdiiaaGreatDoorValK
namespace Go.Proofs.YtekpdcofjhdiiaaGreatDoor.Val
open Go.RowKit Go.Maps
set_option linter.unusedVariables false
set_option linter.unusedSimpArgs false
set_option maxRecDepth 100000 in
set_option maxHeartbeats 1000000 in
theorem rtruth_any (xn : Bool) (xv : Int) (xs : ByteArray) (w : World) (t : Int) (ht : truthN ⟨xn, xv, xs⟩ = t) : Calls Tryz.prog 47 #[.agg #[.bool xn, .int .i64 xv, .string xs]] w (IntS w t) := by
  subst ht
  cases xn
  · by_cases h : xv = 0
    · rw [show truthN ⟨false, xv, xs⟩ = 0 by unfold truthN; simp [h]]
      have hb : (xv == 0) = true := by simp [h]
      clear h
      go_enter Tryz.func47, Tryz.ntmps47
      go_wp2_with fail
      go_ret
      exact ⟨rfl, below1 _ _⟩
    · rw [show truthN ⟨false, xv, xs⟩ = 2 by unfold truthN; simp [h]]
      have hb : (xv == 0) = false := by simp [h]
      clear h
      go_enter Tryz.func47, Tryz.ntmps47
      go_wp2_with fail
      go_ret
      exact ⟨rfl, below1 _ _⟩
  · rw [show truthN ⟨true, xv, xs⟩ = 1 from rfl]
    go_enter Tryz.func47, Tryz.ntmps47
    go_wp2_with fail
    go_ret
    exact ⟨rfl, below1 _ _⟩
set_option maxRecDepth 100000 in
set_option maxHeartbeats 1000000 in
theorem rof_any (k : Int) (h0 : 0 ≤ k) (h2 : k ≤ 2) (w : World) : Calls Tryz.prog 46 #[.int .i64 k] w (VaS w (ofT k)) := by
  rcases (show k = 0 ∨ k = 1 ∨ k = 2 by omega) with rfl | rfl | rfl
  · rw [show ofT 0 = ⟨false, 0, ⟨#[]⟩⟩ from rfl]
    clear h0 h2
    go_enter Tryz.func46, Tryz.ntmps46
    go_wp2_with fail
    refine bodyPost_ret (v := .agg #[.bool false, .int .i64 0, .string ⟨#[]⟩]) (by simp [results, Tryz.results46, go_sem]) rfl ?_
    exact ⟨rfl, below1 _ _⟩
  · rw [show ofT 1 = ⟨true, 0, ⟨#[]⟩⟩ from rfl]
    clear h0 h2
    go_enter Tryz.func46, Tryz.ntmps46
    go_wp2_with fail
    refine bodyPost_ret (v := .agg #[.bool true, .int .i64 0, .string ⟨#[]⟩]) (by simp [results, Tryz.results46, go_sem]) rfl ?_
    exact ⟨rfl, below1 _ _⟩
  · rw [show ofT 2 = ⟨false, 1, ⟨#[]⟩⟩ from rfl]
    clear h0 h2
    go_enter Tryz.func46, Tryz.ntmps46
    go_wp2_with fail
    refine bodyPost_ret (v := .agg #[.bool false, .int .i64 1, .string ⟨#[]⟩]) (by simp [results, Tryz.results46, go_sem]) rfl ?_
    exact ⟨rfl, below1 _ _⟩
set_option maxRecDepth 100000 in
set_option maxHeartbeats 1000000 in
theorem rnot_any (x : Va) (w : World) (r : Va) (hr : notP x = r) : Calls Tryz.prog 14 #[.agg #[.bool x.null, .int .i64 x.n, .string x.s]] w (VaS w r) := by
  obtain ⟨xn, xv, xs⟩ := x
  obtain ⟨t0, t2⟩ := truth_range ⟨xn, xv, xs⟩
  obtain ⟨T, hT⟩ : ∃ T, truthN ⟨xn, xv, xs⟩ = T := ⟨_, rfl⟩
  have hv : ofT (2 - T) = r := by rw [← hT]; exact hr
  rw [hT] at t0 t2
  have HT := Lib.hid hT
  have HV := Lib.hid hv
  clear hr hv hT
  have hres := res_at (w.alloc (.cells #[.bool xn, .int .i64 xv, .string xs] 23)) #[.bool false, .int .i64 0, .string ⟨#[]⟩] (w.heap.size + 1) (T := 23) (by simp)
  have HR := Lib.hid hres
  clear hres
  go_enter Tryz.func14, Tryz.ntmps14
  go_wp2_with fail
  refine (rtruth_any xn xv xs _ T HT.out).mono ?_
  rintro e w1 ⟨rfl, c1⟩
  have HR := Lib.hid (va_res HR.out c1)
  have CX := Lib.hid ((below2 w (.cells #[.bool xn, .int .i64 xv, .string xs] 23) (.cells #[.bool false, .int .i64 0, .string ⟨#[]⟩] 23)).trans (c1.mono (by simp; omega)))
  clear c1
  go_wp2_with fail
  refine (rof_any (2 - T) (by omega) (by omega) _).mono ?_
  rintro e w2 ⟨rfl, c2⟩
  rw [HV.out]
  have hr2 := va_res HR.out c2
  have CX := Lib.hid (CX.out.trans (c2.mono CX.out.size))
  have r0 := cell_of_row w2 _ 0 _ _ _ hr2
  have r1 := cell_of_row w2 _ 1 _ _ _ hr2
  have r2 := cell_of_row w2 _ 2 _ _ _ hr2
  have fr := fun j => frozen_of_row w2 _ j _ _ hr2
  clear c2 hr2
  go_wp2_with fail
  exact bodyPost_ret (v := .agg #[.bool r.null, .int .i64 r.n, .string r.s]) (by simp [results, Tryz.results14, go_sem, r0, r1, r2, fr]) rfl ⟨rfl, ((CX.out.setCell (by simp) _).setCell (by simp) _).setCell (by simp) _⟩
set_option maxRecDepth 100000 in
set_option maxHeartbeats 2000000 in
theorem rland_any (x y : Va) (w : World) (r : Va) (hr : andP x y = r) : Calls Tryz.prog 16 #[.agg #[.bool x.null, .int .i64 x.n, .string x.s], .agg #[.bool y.null, .int .i64 y.n, .string y.s]] w (VaS w r) := by
  obtain ⟨t0, t2⟩ := truth_range x
  obtain ⟨u0, u2⟩ := truth_range y
  obtain ⟨T, hT⟩ : ∃ T, truthN x = T := ⟨_, rfl⟩
  obtain ⟨U, hU⟩ : ∃ U, truthN y = U := ⟨_, rfl⟩
  obtain ⟨V, hV⟩ : ∃ V, min T U = V := ⟨_, rfl⟩
  have hv : ofT V = r := by rw [← hV, ← hT, ← hU]; exact hr
  rw [hT] at t0 t2
  rw [hU] at u0 u2
  have KT := Lib.hid (fun W => rtruth_any x.null x.n x.s W T hT)
  have KU := Lib.hid (fun W => rtruth_any y.null y.n y.s W U hU)
  have KV := Lib.hid (fun W => rof_any V (by omega) (by omega) W)
  rw [hv] at KV
  have HVM := Lib.hid hV
  obtain ⟨g0, g1, g2, g3⟩ := args2_at w x y
  have hx0 : HeldV w x y (((w.alloc (vaO x)).alloc (vaO y)).alloc (vaO noVa)) := ⟨cell_of_row _ _ 0 _ _ _ g0, cell_of_row _ _ 1 _ _ _ g0, cell_of_row _ _ 2 _ _ _ g0, cell_of_row _ _ 0 _ _ _ g1, cell_of_row _ _ 1 _ _ _ g1, cell_of_row _ _ 2 _ _ _ g1⟩
  clear hr hv hT hU hV g0 g1 t0 t2 u0 u2
  go_enter Tryz.func16, Tryz.ntmps16
  go_upto_region 1 with fail
  obtain ⟨W0, hW0⟩ : ∃ W0, (((w.alloc (vaO x)).alloc (vaO y)).alloc (vaO noVa)) = W0 := ⟨_, rfl⟩
  have hW1 := hW0
  unfold vaO at hW1
  change (((w.alloc (.cells #[.bool x.null, .int .i64 x.n, .string x.s] 23)).alloc (.cells #[.bool y.null, .int .i64 y.n, .string y.s] 23)).alloc (.cells #[.bool false, .int .i64 0, .string ⟨#[]⟩] 23)) = W0 at hW1
  rw [hW0] at g2 g3 hx0
  rw [hW1]
  have HX := Lib.hid (show HeldV w x y W0.drew from hx0)
  have HR := Lib.hid (show W0.drew.heap[w.heap.size + 1 + 1]? = some (vaO noVa) from g2)
  have HB := Lib.hid g3
  have hvm := HVM.out
  clear hW0 hW1 hx0 g2 g3
  go_region_held3 (fun W => HeldV w x y W) (first | assumption | exact heldV_set _ _ _ (by assumption) | exact k6 (by assumption) | exact k5 (by assumption) | exact k4 (by assumption) | exact HX.out)
    (first
      | (go_at_call 47; (with_reducible refine (KT.out _).mono ?_); rintro e W4 ⟨rfl, c4⟩; have k4 := fun h => heldV_later (w := w) (x := x) (y := y) c4 h; have HR4 := Lib.hid (va_res HR.out c4); have HB4 := Lib.hid (HB.out.drew.trans (c4.mono HB.out.drew.size)))
      | (go_at_call 47; (with_reducible refine (KU.out _).mono ?_); rintro e W5 ⟨rfl, c5⟩; have k5 := fun h => heldV_later (w := w) (x := x) (y := y) c5 h; have HR5 := Lib.hid (va_res HR4.out c5); have HB5 := Lib.hid (HB4.out.trans (c5.mono HB4.out.size)))
      | (go_at_call 46; (with_reducible refine (KV.out _).mono ?_); rintro e W6 ⟨rfl, c6⟩; have k6 := fun h => heldV_later (w := w) (x := x) (y := y) c6 h; have hr6 := va_res HR5.out c6; have HB6 := Lib.hid (HB5.out.trans (c6.mono HB5.out.size)); have r0 := cell_of_row W6 _ 0 _ _ _ hr6; have r1 := cell_of_row W6 _ 1 _ _ _ hr6; have r2 := cell_of_row W6 _ 2 _ _ _ hr6; have fr := fun j => frozen_of_row W6 _ j _ _ hr6; clear hr6))
  all_goals
    go_wp2_with fail
    exact bodyPost_ret (v := .agg #[.bool r.null, .int .i64 r.n, .string r.s]) (by simp [results, Tryz.results16, go_sem, r0, r1, r2, fr]) rfl ⟨rfl, ((HB6.out.setCell (by simp; omega) _).setCell (by simp; omega) _).setCell (by simp; omega) _⟩
set_option maxRecDepth 100000 in
set_option maxHeartbeats 2000000 in
theorem rlor_any (x y : Va) (w : World) (r : Va) (hr : orP x y = r) : Calls Tryz.prog 18 #[.agg #[.bool x.null, .int .i64 x.n, .string x.s], .agg #[.bool y.null, .int .i64 y.n, .string y.s]] w (VaS w r) := by
  obtain ⟨t0, t2⟩ := truth_range x
  obtain ⟨u0, u2⟩ := truth_range y
  obtain ⟨T, hT⟩ : ∃ T, truthN x = T := ⟨_, rfl⟩
  obtain ⟨U, hU⟩ : ∃ U, truthN y = U := ⟨_, rfl⟩
  obtain ⟨V, hV⟩ : ∃ V, max T U = V := ⟨_, rfl⟩
  have hv : ofT V = r := by rw [← hV, ← hT, ← hU]; exact hr
  rw [hT] at t0 t2
  rw [hU] at u0 u2
  have KT := Lib.hid (fun W => rtruth_any x.null x.n x.s W T hT)
  have KU := Lib.hid (fun W => rtruth_any y.null y.n y.s W U hU)
  have KV := Lib.hid (fun W => rof_any V (by omega) (by omega) W)
  rw [hv] at KV
  have HVM := Lib.hid hV
  obtain ⟨g0, g1, g2, g3⟩ := args2_at w x y
  have hx0 : HeldV w x y (((w.alloc (vaO x)).alloc (vaO y)).alloc (vaO noVa)) := ⟨cell_of_row _ _ 0 _ _ _ g0, cell_of_row _ _ 1 _ _ _ g0, cell_of_row _ _ 2 _ _ _ g0, cell_of_row _ _ 0 _ _ _ g1, cell_of_row _ _ 1 _ _ _ g1, cell_of_row _ _ 2 _ _ _ g1⟩
  clear hr hv hT hU hV g0 g1 t0 t2 u0 u2
  go_enter Tryz.func18, Tryz.ntmps18
  go_upto_region 1 with fail
  obtain ⟨W0, hW0⟩ : ∃ W0, (((w.alloc (vaO x)).alloc (vaO y)).alloc (vaO noVa)) = W0 := ⟨_, rfl⟩
  have hW1 := hW0
  unfold vaO at hW1
  change (((w.alloc (.cells #[.bool x.null, .int .i64 x.n, .string x.s] 23)).alloc (.cells #[.bool y.null, .int .i64 y.n, .string y.s] 23)).alloc (.cells #[.bool false, .int .i64 0, .string ⟨#[]⟩] 23)) = W0 at hW1
  rw [hW0] at g2 g3 hx0
  rw [hW1]
  have HX := Lib.hid (show HeldV w x y W0.drew from hx0)
  have HR := Lib.hid (show W0.drew.heap[w.heap.size + 1 + 1]? = some (vaO noVa) from g2)
  have HB := Lib.hid g3
  have hvm := HVM.out
  clear hW0 hW1 hx0 g2 g3
  go_region_held3 (fun W => HeldV w x y W) (first | assumption | exact heldV_set _ _ _ (by assumption) | exact k6 (by assumption) | exact k5 (by assumption) | exact k4 (by assumption) | exact HX.out)
    (first
      | (go_at_call 47; (with_reducible refine (KT.out _).mono ?_); rintro e W4 ⟨rfl, c4⟩; have k4 := fun h => heldV_later (w := w) (x := x) (y := y) c4 h; have HR4 := Lib.hid (va_res HR.out c4); have HB4 := Lib.hid (HB.out.drew.trans (c4.mono HB.out.drew.size)))
      | (go_at_call 47; (with_reducible refine (KU.out _).mono ?_); rintro e W5 ⟨rfl, c5⟩; have k5 := fun h => heldV_later (w := w) (x := x) (y := y) c5 h; have HR5 := Lib.hid (va_res HR4.out c5); have HB5 := Lib.hid (HB4.out.trans (c5.mono HB4.out.size)))
      | (go_at_call 46; (with_reducible refine (KV.out _).mono ?_); rintro e W6 ⟨rfl, c6⟩; have k6 := fun h => heldV_later (w := w) (x := x) (y := y) c6 h; have hr6 := va_res HR5.out c6; have HB6 := Lib.hid (HB5.out.trans (c6.mono HB5.out.size)); have r0 := cell_of_row W6 _ 0 _ _ _ hr6; have r1 := cell_of_row W6 _ 1 _ _ _ hr6; have r2 := cell_of_row W6 _ 2 _ _ _ hr6; have fr := fun j => frozen_of_row W6 _ j _ _ hr6; clear hr6))
  all_goals
    go_wp2_with fail
    exact bodyPost_ret (v := .agg #[.bool r.null, .int .i64 r.n, .string r.s]) (by simp [results, Tryz.results18, go_sem, r0, r1, r2, fr]) rfl ⟨rfl, ((HB6.out.setCell (by simp; omega) _).setCell (by simp; omega) _).setCell (by simp; omega) _⟩
end Go.Proofs.YtekpdcofjhdiiaaGreatDoor.Val
