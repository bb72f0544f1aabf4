/-
  Order of chapter 10. No condition beyond what each theorem names.
-/
import Derived.Test.YtekpdcofjhdiiaaGreatDoorValJ
namespace Go.Proofs.YtekpdcofjhdiiaaGreatDoor.Val
open Go.RowKit Go.Maps
set_option linter.unusedVariables false
set_option linter.unusedSimpArgs false
set_option maxRecDepth 100000 in
set_option maxHeartbeats 1000000 in
theorem order_null (xn : Bool) (xv : Int) (xs : ByteArray) (yn : Bool) (yv : Int) (ys : ByteArray) (k s : Int) (w : World) (h : (xn || yn) = true) : Calls Tryz.prog 11 #[.agg #[.bool xn, .int .i64 xv, .string xs], .agg #[.bool yn, .int .i64 yv, .string ys], .agg #[.int .i64 k, .int .i64 s]] w (IntS w (if xn && yn then 0 else if xn then -1 else 1)) := by
  cases xn <;> cases yn
  · cases h
  all_goals
    go_enter Tryz.func11, Tryz.ntmps11
    go_wp2_with fail
    go_ret
    exact ⟨rfl, (((Below.refl _ _).alloc (Nat.le_refl _) _).alloc (by simp) _).alloc (by simp; omega) _⟩
set_option maxRecDepth 100000 in
set_option maxHeartbeats 1000000 in
theorem order_cmp (xv : Int) (xs : ByteArray) (yv : Int) (ys : ByteArray) (k s : Int) (hx : I64 xv) (hy : I64 yv) (w : World) (c : Int) (b : Bool) (hc : cmpOut (cmpP ⟨false, xv, xs⟩ ⟨false, yv, ys⟩ ⟨k, s⟩ ⟨k, s⟩) = (c, b)) : Calls Tryz.prog 11 #[.agg #[.bool false, .int .i64 xv, .string xs], .agg #[.bool false, .int .i64 yv, .string ys], .agg #[.int .i64 k, .int .i64 s]] w (IntS w c) := by
  have HC := Lib.hid (fun W => compare_any ⟨false, xv, xs⟩ ⟨false, yv, ys⟩ ⟨k, s⟩ ⟨k, s⟩ hx hy W _ rfl)
  have HE := Lib.hid hc
  clear hc hx hy
  go_enter Tryz.func11, Tryz.ntmps11
  go_wp2_with fail
  refine (HC.out _).mono ?_
  rintro e w1 ⟨rfl, c1⟩
  rw [HE.out]
  have CX := Lib.hid (((((Below.refl w.heap.size w).alloc (Nat.le_refl _) (.cells #[.bool false, .int .i64 xv, .string xs] 23)).alloc (by simp) (.cells #[.bool false, .int .i64 yv, .string ys] 23)).alloc (by simp; omega) (.cells #[.int .i64 k, .int .i64 s] 25)).trans (c1.mono (by simp; omega)))
  clear c1
  go_wp2_with fail
  go_ret
  exact ⟨rfl, CX.out⟩
theorem order_any (x y : Va) (t : Ty) (hx : I64 x.n) (hy : I64 y.n) (w : World) (c : Int) (hc : orderP x y t = c) : Calls Tryz.prog 11 #[.agg #[.bool x.null, .int .i64 x.n, .string x.s], .agg #[.bool y.null, .int .i64 y.n, .string y.s], .agg #[.int .i64 t.kind, .int .i64 t.scale]] w (IntS w c) := by
  obtain ⟨xn, xv, xs⟩ := x
  obtain ⟨yn, yv, ys⟩ := y
  obtain ⟨k, s⟩ := t
  unfold orderP at hc
  cases h : (xn || yn) with
  | true =>
    have h9 := order_null xn xv xs yn yv ys k s w h
    have : (if xn && yn then (0 : Int) else if xn then -1 else 1) = c := by
      rw [← hc]
      cases xn <;> cases yn <;> first | rfl | cases h
    rw [this] at h9
    exact h9
  | false =>
    obtain ⟨rfl, rfl⟩ : xn = false ∧ yn = false := by simpa using h
    obtain ⟨c', b, he⟩ : ∃ c' b, cmpOut (cmpP ⟨false, xv, xs⟩ ⟨false, yv, ys⟩ ⟨k, s⟩ ⟨k, s⟩) = (c', b) := ⟨_, _, rfl⟩
    have : c' = c := by rw [← hc]; simp only [Bool.and_self, Bool.false_eq_true, if_false]; rw [he]
    subst this
    exact order_cmp xv xs yv ys k s hx hy w c' b he
end Go.Proofs.YtekpdcofjhdiiaaGreatDoor.Val
