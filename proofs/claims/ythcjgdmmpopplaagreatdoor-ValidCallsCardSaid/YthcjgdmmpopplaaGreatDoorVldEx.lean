/-
  Chapter 7's examples, and what a made module is. No condition beyond what each theorem names.
-/
import Derived.Test.YthcjgdmmpopplaaGreatDoorVldHa
import Derived.Test.YthcjgdmmpopplaaGreatDoorVldPl
import Derived.Test.YthcjgdmmpopplaaGreatDoorModOwn
import Derived.Test.YthcjgdmmpopplaaGreatDoorModExA
namespace Go.Proofs.YthcjgdmmpopplaaGreatDoor.Vld
open Go.RowKit Go.Maps Go.Lib Go.Proofs.YthcjgdmmpopplaaGreatDoor.Op Go.Proofs.YthcjgdmmpopplaaGreatDoor.Mod Go.Proofs.YthcjgdmmpopplaaGreatDoor.Pg
set_option linter.unusedVariables false
/-- the function of a code, as made() makes it -/
def fnOf (c : List InsL) : FuncP := ⟨0, ⟨#[127, 126]⟩, c⟩
theorem toL_tL (c : List Ins) : c.map toL = c.map tL := rfl
theorem funcE_valid {m : ModP} {x : FuncP} (hr : rightM { m with funcs := [x] } = true) (hn : nestP x.code ≤ 256) (hv : validF m x = true) : funcE m x = 0 := by
  unfold funcE
  rw [hr, if_neg (by decide), if_neg (by omega), hv, if_neg (by decide)]
theorem funcE_not {m : ModP} {x : FuncP} (hr : rightM { m with funcs := [x] } = true) (hn : nestP x.code ≤ 256) (hv : validF m x = false) : funcE m x = 4 := by
  unfold funcE
  rw [hr, if_neg (by decide), if_neg (by omega), hv, if_pos rfl]
theorem modOf_valid (l : List Step) : validF (modOf (madeP l).code) (fnOf ((madeP l).code.map tL)) = true := (made_valid rfl rfl rfl rfl (by simp [modOf]) l).1
theorem made_func (l : List Step) : funcE (modOf (madeP l).code) (fnOf ((madeP l).code.map tL)) = 0 :=
  funcE_valid (by exact made_right l) (by have := nest_made l; show nestP ((madeP l).code.map tL) ≤ 256; omega) (modOf_valid l)
theorem made_bad (c : List Ins) : badB (modOf c) = false := by kernel_rfl
theorem made_mem (c : List Ins) : (modOf c).memory.any memBad = false := by kernel_rfl
theorem made_module (l : List Step) : moduleE (modOf (madeP l).code) = 0 := by
  unfold moduleE
  rw [made_right, if_neg (by decide)]
  have hn := nest_made l
  have h1 : (modOf (madeP l).code).funcs.any (fun x => decide (256 < nestP x.code)) = false := by
    show ([fnOf ((madeP l).code.map tL)].any fun x => decide (256 < nestP x.code)) = false
    simp only [List.any_cons, List.any_nil, Bool.or_false, decide_eq_false_iff_not]
    show ¬ 256 < nestP ((madeP l).code.map tL)
    omega
  have h2 : (modOf (madeP l).code).funcs.all (fun x => validF (modOf (madeP l).code) x) = true := by
    show ([fnOf ((madeP l).code.map tL)].all fun x => validF (modOf (madeP l).code) x) = true
    simp only [List.all_cons, List.all_nil, Bool.and_true]
    exact modOf_valid l
  rw [h1, if_neg (by decide)]
  unfold e1
  rw [made_bad, if_neg (by decide)]
  unfold e2
  rw [made_mem, if_neg (by decide)]
  unfold e3
  rw [h2, if_pos rfl]
/-- a module of nothing -/
def mod0 (st : Int) : ModP := ⟨[], [], [], [], [], st, []⟩
theorem list_nil {α : Type} {size : Nat} {R : World → List Value → α → Prop} (w : World) : ListAt size R w (.slice none 0 0) [] := ListAt.mk (l := ([] : List α)) (Nat.zero_le _) (fun i x hi => by cases i <;> cases hi)
theorem mod0_at (w : World) (st : Int) (hs : (Lit.int .i64 st).wf = true) : ModAt w (.slice none 0 0) (.slice none 0 0) (.slice none 0 0) (.slice none 0 0) (.slice none 0 0) st (.slice none 0 0) (mod0 st) := by
  refine ⟨list_nil w, list_nil w, list_nil w, list_nil w, list_nil w, rfl, list_nil w⟩
theorem e_nil : moduleE (mod0 (-1)) = 0 := by kernel_rfl
theorem e_nil5 : moduleE (mod0 (-5)) = 1 := by kernel_rfl
theorem e_drop (c : List Ins) : funcE (modOf c) ⟨0, ⟨#[]⟩, [⟨26, 0, 0, []⟩, ⟨11, 0, 0, []⟩]⟩ = 4 := by kernel_rfl
theorem e_nest : nestP [⟨2, 0, 0, []⟩, ⟨3, 0, 0, []⟩, ⟨11, 0, 0, []⟩] = 2 := by kernel_rfl
/-- a block of instructions -/
theorem cod_block {W : World} {b : Nat} {cs : Array Value} (h : W.heap[b]? = some (.cells cs 38 (0, 0))) (c : List Ins) (n : Nat) (hcs : cs.toList = (c.map Ins.cells).flatten) (hn : n = c.length) (hl : n ≤ 1000000) : Cod W b (.slice (some ⟨b, 0, none⟩) n n) c := by
  subst hn
  have hz : ∀ r ∈ c.map Ins.cells, r.length = 4 := fun r hr => by obtain ⟨x, _, rfl⟩ := List.mem_map.1 hr; rfl
  have hfl : (c.map Ins.cells).flatten.length = c.length * 4 := by rw [flat_len _ hz, List.length_map]
  have hsz : cs.size = c.length * 4 := by rw [← Array.length_toList, hcs, hfl]
  refine ⟨⟨by rw [List.length_map]; exact hfl, .inr ⟨b, c.length, cs, by rw [List.length_map], Nat.le_refl _, h, by rw [List.length_map]; omega, ?_, hsz, ?_⟩⟩, hz⟩
  · unfold maxLen
    omega
  · rw [List.length_map, hcs, List.take_of_length_le (by omega)]
def exSteps : List Step := [⟨2, 0, 0, 0⟩, ⟨11, 0, 0, 3⟩, ⟨14, 0, 0, 0⟩]
theorem exSteps_at (W : World) : StepsAt (W.alloc (.cells #[.int .u8 2, .int .i64 0, .int .i64 0, .int .u8 0, .int .u8 11, .int .i64 0, .int .i64 0, .int .u8 3, .int .u8 14, .int .i64 0, .int .i64 0, .int .u8 0] 59)) (.slice (some ⟨W.heap.size, 0, none⟩) 3 3) exSteps := by
  refine row_of_block (R := isStep) (heap_alloc_new _ _) _ _ _ rfl (by simp [exSteps]) (fun i x hi => ?_)
  match i, hi with
  | 0, hi => obtain rfl := Option.some.inj hi; exact ⟨⟨rfl, by decide, by decide⟩, rfl⟩
  | 1, hi => obtain rfl := Option.some.inj hi; exact ⟨⟨rfl, by decide, by decide⟩, rfl⟩
  | 2, hi => obtain rfl := Option.some.inj hi; exact ⟨⟨rfl, by decide, by decide⟩, rfl⟩
  | i + 3, hi => simp [exSteps] at hi
theorem below3 (w : World) (o1 o2 o3 : Obj) : Below w.heap.size w (((w.alloc o1).alloc o2).alloc o3) := (((Below.refl _ _).alloc (Nat.le_refl _) o1).alloc (by simp) o2).alloc (by simp; omega) o3
theorem below1 (w : World) (o1 : Obj) : Below w.heap.size w (w.alloc o1) := (Below.refl _ _).alloc (Nat.le_refl _) o1
theorem cell3 {w w2 : World} {o1 o2 o3 : Obj} (c : Below (((w.alloc o1).alloc o2).alloc o3).heap.size (((w.alloc o1).alloc o2).alloc o3) w2) : w2.heap[w.heap.size]? = some o1 ∧ w2.heap[w.heap.size + 1]? = some o2 ∧ w2.heap[w.heap.size + 1 + 1]? = some o3 ∧ Below w.heap.size w w2 := by
  have key : ∀ (V : World) (n : Nat) (o : Obj), V.heap.size = n → (V.alloc o).heap[n]? = some o := fun V n o h => by subst h; exact heap_alloc_new V o
  have old : ∀ (V : World) (n : Nat) (o q : Obj), V.heap[n]? = some q → (V.alloc o).heap[n]? = some q := fun V n o q h => (Below.heap_alloc V o n (Array.getElem?_eq_some_iff.1 h).1).trans h
  have lat : ∀ (n : Nat) (q : Obj), (((w.alloc o1).alloc o2).alloc o3).heap[n]? = some q → w2.heap[n]? = some q := fun n q h => (c.block n (Array.getElem?_eq_some_iff.1 h).1).trans h
  exact ⟨lat _ _ (old _ _ _ _ (old _ _ _ _ (key _ _ _ rfl))), lat _ _ (old _ _ _ _ (key _ _ _ (by simp))), lat _ _ (key _ _ _ (by simp)), (below3 _ _ _ _).trans (c.mono (below3 w o1 o2 o3).size)⟩
theorem box_later {w w2 : World} (c : Below w.heap.size w w2) {n : Nat} {q : Obj} (h : w.heap[n]? = some q) : w2.heap[n]? = some q := (c.block n (Array.getElem?_eq_some_iff.1 h).1).trans h
theorem box_at {w : World} {b : Nat} {cs : Array Value} {t : TypeId} (h : w.heap[b]? = some (.cells cs t (0, 0))) (j : Nat) (v : Value) (hv : cs[j]? = some v) : w.cell? ⟨b, j, none⟩ = some v := by
  rw [cell_of_row w b _ _ _ _ h]; exact hv
set_option maxRecDepth 100000 in
set_option maxHeartbeats 4000000 in
theorem examples07 (w : World) (hE : MEnv w) : Calls Tryz.prog 9 #[] w fun e w' => e = .returned (.bool true) ∧ Below w.heap.size w w' := by
  have HE := Lib.hid hE
  clear hE
  go_enter Tryz.func9, Tryz.ntmps9
  go_wp2_with fail
  refine (made_any (.slice (some ⟨w.heap.size, 0, none⟩) 3 3) exSteps _ (exSteps_at w) (made_opsWf exSteps)).mono ?_
  rintro e w1 ⟨⟨bt, bf, bm, bg, be, bd, cv, rfl, hA⟩, c1⟩
  have HA := Lib.hid hA
  have C1 := Lib.hid ((below1 w _).trans (c1.mono (by simp)))
  clear hA c1
  obtain ⟨K, hK⟩ : ∃ K, (madeP exSteps).code = K := ⟨_, rfl⟩
  have hEM : moduleE (modOf K) = 0 := by rw [← hK]; exact made_module _
  have hLen : K.length ≤ 100000 := by rw [← hK]; exact made_len _
  rw [hK] at HA
  clear hK
  have HMod := Lib.hid (fun (W : World) (hb : Below w1.heap.size w1 W) => (show Calls Tryz.prog 11 #[.agg #[.slice (some ⟨bt, 0, none⟩) 1 1, .slice (some ⟨bf, 0, none⟩) 1 1, .slice (some ⟨bm, 0, none⟩) 1 1, .slice (some ⟨bg, 0, none⟩) 2 2, .slice (some ⟨be, 0, none⟩) 1 1, .int .i64 (-1), .slice (some ⟨bd, 0, none⟩) 1 1]] W fun e w' => e = .returned (.int .i64 0) ∧ Below W.heap.size W w' from by
    have h := module_any _ _ _ _ _ _ _ _ W (HA.out.later hb).mod (HE.out.later (C1.out.trans (hb.mono C1.out.size))) (fun x hx => by obtain rfl := List.mem_singleton.1 hx; show (K.map toL).length ≤ _; rw [List.length_map]; omega)
    rw [hEM] at h
    exact h))
  have HNil := Lib.hid (fun (W : World) (hb : Below w1.heap.size w1 W) (st r : Int) (hs : (Lit.int .i64 st).wf = true) (hr : moduleE (mod0 st) = r) => (show Calls Tryz.prog 11 #[.agg #[.slice none 0 0, .slice none 0 0, .slice none 0 0, .slice none 0 0, .slice none 0 0, .int .i64 st, .slice none 0 0]] W fun e w' => e = .returned (.int .i64 r) ∧ Below W.heap.size W w' from by
    have h := module_any _ _ _ _ _ _ _ _ W (mod0_at W st hs) (HE.out.later (C1.out.trans (hb.mono C1.out.size))) (fun x hx => by cases hx)
    rw [hr] at h
    exact h))
  have HFun := Lib.hid (fun (W : World) (hb : Below w1.heap.size w1 W) (cv : Value) (hc : CodeAt W cv [⟨26, 0, 0, []⟩, ⟨11, 0, 0, []⟩]) => (show Calls Tryz.prog 12 #[.agg #[.slice (some ⟨bt, 0, none⟩) 1 1, .slice (some ⟨bf, 0, none⟩) 1 1, .slice (some ⟨bm, 0, none⟩) 1 1, .slice (some ⟨bg, 0, none⟩) 2 2, .slice (some ⟨be, 0, none⟩) 1 1, .int .i64 (-1), .slice (some ⟨bd, 0, none⟩) 1 1], .agg #[.int .i64 0, .string ⟨#[]⟩, cv]] W fun e w' => e = .returned (.int .i64 4) ∧ Below W.heap.size W w' from by
    have h := func_any _ _ _ _ _ _ _ _ W (HA.out.later hb).mod (HE.out.later (C1.out.trans (hb.mono C1.out.size))) ⟨0, ⟨#[]⟩, [⟨26, 0, 0, []⟩, ⟨11, 0, 0, []⟩]⟩ cv hc (show 0 ≤ 9223372036854775807 by decide) (show 2 ≤ 1000000 by decide)
    rw [e_drop] at h
    exact h))
  clear hEM hLen
  unfold madeV modV slV
  go_wp2_with fail
  refine (HMod.out _ (below3 _ _ _ _)).mono ?_
  rintro e w2 ⟨rfl, c2⟩
  obtain ⟨x1, x2, x3, b2⟩ := cell3 c2
  have B2 := Lib.hid b2
  have X1 := Lib.hid x1
  have X2 := Lib.hid x2
  have X3 := Lib.hid x3
  clear c2 b2 x1 x2 x3
  go_wp2_with fail
  refine (HNil.out _ B2.out (-1) 0 (by decide) e_nil).mono ?_
  rintro e w3 ⟨rfl, c3⟩
  have B3 := Lib.hid (B2.out.trans (c3.mono B2.out.size))
  have Y1 := Lib.hid (box_later c3 X1.out)
  have Y2 := Lib.hid (box_later c3 X2.out)
  have Y3 := Lib.hid (box_later c3 X3.out)
  have q0 := box_at Y1.out 0 _ rfl
  have q1 := box_at Y1.out 1 _ rfl
  have q2 := box_at Y1.out 2 _ rfl
  have q3 := box_at Y1.out 3 _ rfl
  have q4 := box_at Y1.out 4 _ rfl
  have q5 := box_at Y1.out 5 _ rfl
  have q6 := box_at Y1.out 6 _ rfl
  have r0 := box_at Y3.out 0 _ rfl
  have r1 := box_at Y3.out 1 _ rfl
  have r2 := box_at Y3.out 2 _ rfl
  clear c3
  go_wp2_with fail
  refine (HFun.out _ B3.out _ ((cod_block Y2.out [⟨26, 0, 0⟩, ⟨11, 0, 0⟩] 2 rfl rfl (by decide)).at (by decide) (by decide))).mono ?_
  rintro e w4 ⟨rfl, c4⟩
  have B4 := Lib.hid (B3.out.trans (c4.mono B3.out.size))
  clear c4 q0 q1 q2 q3 q4 q5 q6 r0 r1 r2
  go_wp2_with fail
  refine (HNil.out _ B4.out (-5) 1 (by decide) e_nil5).mono ?_
  rintro e w5 ⟨rfl, c5⟩
  have B5 := Lib.hid (B4.out.trans (c5.mono B4.out.size))
  clear c5
  go_wp2_with fail
  refine (nest_any (.slice (some ⟨w5.heap.size, 0, none⟩) 3 3) [⟨2, 0, 0, []⟩, ⟨3, 0, 0, []⟩, ⟨11, 0, 0, []⟩] _ ((cod_block (heap_alloc_new _ _) [⟨2, 0, 0⟩, ⟨3, 0, 0⟩, ⟨11, 0, 0⟩] 3 rfl rfl (by decide)).at (by decide) (by decide)) (by decide)).mono ?_
  rw [e_nest]
  rintro e w6 ⟨rfl, c6⟩
  have B6 := Lib.hid (C1.out.trans (((B5.out.alloc B5.out.size _).trans (c6.mono (Nat.le_trans B5.out.size (by simp)))).mono C1.out.size))
  clear c6
  go_wp2_with fail
  go_ret
  exact ⟨rfl, B6.out⟩
end Go.Proofs.YthcjgdmmpopplaaGreatDoor.Vld
