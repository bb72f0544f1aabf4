/-
  What Done of chapter 17 answers: the reference's, and the program's where it refuses. No condition beyond what each theorem names.
-/
import Derived.Test.YtlbgbpgjccbbjaaDoorAsmRE
namespace Go.Proofs.YtlbgbpgjccbbjaaDoor.Asm
open Go.RowKit Go.Maps Go.Proofs.YtlbgbpgjccbbjaaDoor.Op
set_option linter.unusedVariables false
def ZeroF (w : World) (e : Ending) (w' : World) : Prop := e = .returned (.tuple #[.agg #[.int .i64 0, .string ⟨#[]⟩, .slice none 0 0], .int .i64 1]) ∧ Below w.heap.size w w'
theorem zeroF_end (w : World) (u0 u1 u2 : Value) : ZeroF w (.returned (.tuple #[.agg #[.int .i64 0, .string ⟨#[]⟩, .slice none 0 0], .int .i64 1])) (w.alloc (.cells #[u0, u1, u2] 51)) :=
  ⟨rfl, (Below.refl _ _).alloc (Nat.le_refl _) _⟩
theorem doneBad_cases {s : St} {kd : Int} (h : doneBad s kd = true) : (0 < s.opens.length) ∨ (s.opens.length = 0 ∧ kd < 0) ∨ (s.opens.length = 0 ∧ ¬ kd < 0 ∧ 4294967296 ≤ kd) := by
  simp only [doneBad, Bool.or_eq_true, Bool.not_eq_true', decide_eq_true_eq] at h
  cases hl : s.opens with
  | nil => rw [hl] at h; simp at h; simp; omega
  | cons a l => simp
set_option maxRecDepth 100000 in
set_option maxHeartbeats 2000000 in
theorem done_bad (kd : Int) (w : World) (B bb : Nat) (x : Bx) (n : Nat) (s : St) (h : BAt w B bb x n s) (hlo : s.opens.length < 1000000) (hb : doneBad s kd = true) :
    Calls Tryd.prog 25 #[.pointer (some ⟨bb, 0, none⟩), .int .i64 kd] w (ZeroF w) := by
  obtain ⟨lv, cv, ov, mb⟩ := x
  obtain ⟨a, cap, hov⟩ := opens_form h
  subst hov
  obtain ⟨c0, c1, c2, c3, c4⟩ := h.cells
  have hlt := h.lt
  clear h
  rcases doneBad_cases hb with h1 | ⟨h1, h2⟩ | ⟨h1, h2, h3⟩
  · have d1 : decide (0 < s.opens.length) = true := decide_eq_true h1
    clear hb h1
    go_enter Tryd.func25, Tryd.ntmps25
    go_wp2_with fail
    exact bodyPost_ret (v := .tuple #[.agg #[.int .i64 0, .string ⟨#[]⟩, .slice none 0 0], .int .i64 1]) (by simp [results, Tryd.results25, go_sem]) rfl (zeroF_end _ _ _ _)
  · rw [h1] at c3
    have d2 : decide (kd < 0) = true := decide_eq_true h2
    clear hb h1
    go_enter Tryd.func25, Tryd.ntmps25
    go_wp2_with fail
    exact bodyPost_ret (v := .tuple #[.agg #[.int .i64 0, .string ⟨#[]⟩, .slice none 0 0], .int .i64 1]) (by simp [results, Tryd.results25, go_sem]) rfl (zeroF_end _ _ _ _)
  · rw [h1] at c3
    have d2 : decide (kd < 0) = false := decide_eq_false h2
    have d3 : ((kd / 4294967296) != 0) = true := bne_iff_ne.2 (by omega)
    have d4 : 0 ≤ kd / 4294967296 := by omega
    clear hb h1
    go_enter Tryd.func25, Tryd.ntmps25
    go_wp2_with fail
    exact bodyPost_ret (v := .tuple #[.agg #[.int .i64 0, .string ⟨#[]⟩, .slice none 0 0], .int .i64 1]) (by simp [results, Tryd.results25, go_sem]) rfl (zeroF_end _ _ _ _)
set_option maxRecDepth 100000 in
set_option maxHeartbeats 2000000 in
theorem rdone_bad (kd : Int) (w : World) (B bb : Nat) (P : ByteArray) (x : Rx) (s : St) (h : RAt w B bb P x s) (hlo : s.opens.length < 1000000) (hb : doneBad s kd = true) :
    Calls Tryd.prog 50 #[.pointer (some ⟨bb, 0, none⟩), .int .i64 kd] w (ZeroF w) := by
  obtain ⟨cv, ov⟩ := x
  obtain ⟨a, cap, hov⟩ := ropens_form h
  subst hov
  obtain ⟨c0, c1, c2, c3⟩ := h.cells
  have hlt := h.lt
  clear h
  rcases doneBad_cases hb with h1 | ⟨h1, h2⟩ | ⟨h1, h2, h3⟩
  · have d1 : decide (0 < s.opens.length) = true := decide_eq_true h1
    clear hb h1
    go_enter Tryd.func50, Tryd.ntmps50
    go_wp2_with fail
    exact bodyPost_ret (v := .tuple #[.agg #[.int .i64 0, .string ⟨#[]⟩, .slice none 0 0], .int .i64 1]) (by simp [results, Tryd.results50, go_sem]) rfl (zeroF_end _ _ _ _)
  · rw [h1] at c3
    have d2 : decide (kd < 0) = true := decide_eq_true h2
    clear hb h1
    go_enter Tryd.func50, Tryd.ntmps50
    go_wp2_with fail
    exact bodyPost_ret (v := .tuple #[.agg #[.int .i64 0, .string ⟨#[]⟩, .slice none 0 0], .int .i64 1]) (by simp [results, Tryd.results50, go_sem]) rfl (zeroF_end _ _ _ _)
  · rw [h1] at c3
    have d2 : decide (kd < 0) = false := decide_eq_false h2
    have d3 : decide (4294967296 ≤ kd) = true := decide_eq_true h3
    clear hb h1
    go_enter Tryd.func50, Tryd.ntmps50
    go_wp2_with fail
    exact bodyPost_ret (v := .tuple #[.agg #[.int .i64 0, .string ⟨#[]⟩, .slice none 0 0], .int .i64 1]) (by simp [results, Tryd.results50, go_sem]) rfl (zeroF_end _ _ _ _)
theorem rloc_grown {w1 w2 : World} {o : Obj} {B bb B2 m : Nat} {P : ByteArray} {cv ov v : Value} {s : St} {xs : List Value} (hA : RAt w1 B bb P ⟨cv, ov⟩ s) (ho : w1.ownsRow B2 36 4 v m xs) (hg : (w1.alloc o).drew.grownBy w2 v.ownBlock) : w2.cell? ⟨bb, 1, none⟩ = some (.string ⟨s.locals.toArray⟩) :=
  (drew_alloc hg).cell (a := ⟨bb, 1, none⟩) hA.cells.2.1 (fun e => kind_ne ho hA.box (by decide) e.symm)
theorem rres_grown {w1 w2 : World} {o : Obj} {B2 m b : Nat} {v : Value} {cs : Array Value} {xs : List Value} (hr : w1.heap[b]? = some (.cells cs 51 (0, 0))) (ho : w1.ownsRow B2 36 4 v m xs) (hg : (w1.alloc o).drew.grownBy w2 v.ownBlock) : w2.heap[b]? = some (.cells cs 51 (0, 0)) :=
  ((drew_alloc hg).block b (Array.getElem?_eq_some_iff.1 hr).1 (fun e => kind_ne ho hr (by decide) e.symm)).trans hr
theorem rdone_fin {w w1 w2 : World} {o : Obj} {kd : Int} {s : St} {v : Value} {g2 cap2 : Nat} {cs : Array Value} (hb : Below w.heap.size w w1) (ho1 : w1.ownsRow w.heap.size 36 4 v s.code.length (codeV s.code)) (ho2 : w2.ownsRow w.heap.size 36 4 (.slice (some ⟨g2, 0, none⟩) (s.code.length + 1) cap2) (s.code.length + 1) (codeV s.code ++ Ins.cells ⟨11, 0, 0⟩)) (hg : (w1.alloc o).drew.grownBy w2 v.ownBlock) (hr : w2.heap[w.heap.size]? = some (.cells cs 51 (0, 0))) (u0 u1 u2 : Value) :
    MadeF w kd s (.returned (.tuple #[.agg #[.int .i64 kd, .string ⟨s.locals.toArray⟩, .slice (some ⟨g2, 0, none⟩) (s.code.length + 1) cap2], .int .i64 0])) (((w2.setCell ⟨w.heap.size, 0, none⟩ u0).setCell ⟨w.heap.size, 1, none⟩ u1).setCell ⟨w.heap.size, 2, none⟩ u2) := by
  have B2 := hb.grown (drew_alloc hg) hb.size (fun k hk => (ho1.lt k hk).1)
  refine ⟨g2, cap2, rfl, ?_, ((B2.setCell (Nat.le_refl _) _).setCell (Nat.le_refl _) _).setCell (Nat.le_refl _) _⟩
  rw [codeV_snoc]
  refine ownsRow_of ho2 (fun k hk => ?_)
  have hk2 : k ≠ w.heap.size := fun e => kind_ne ho2 hr (by decide) (by rw [hk, e])
  exact (Below.heap_setCell _ _ _ _ hk2).trans ((Below.heap_setCell _ _ _ _ hk2).trans (Below.heap_setCell _ _ _ _ hk2))
set_option maxRecDepth 100000 in
set_option maxHeartbeats 8000000 in
theorem rdone_ok (kd : Int) (w : World) (B bb : Nat) (P : ByteArray) (x : Rx) (s : St) (h : RAt w B bb P x s) (h0 : s.opens = []) (hl : s.code.length < 1000000) (hk0 : 0 ≤ kd) (hk1 : kd < 4294967296) :
    Calls Tryd.prog 50 #[.pointer (some ⟨bb, 0, none⟩), .int .i64 kd] w (MadeF w kd s) := by
  obtain ⟨i0, hi, hz0, hz1, hz2⟩ := info_of info_ins
  obtain ⟨cv, ov⟩ := x
  obtain ⟨a, cap, hov⟩ := ropens_form h
  rw [h0] at hov
  have hov2 : ov = .slice a 0 cap := hov
  subst hov2
  have d1 : decide (kd < 0) = false := decide_eq_false (by omega)
  have d2 : decide (4294967296 ≤ kd) = false := decide_eq_false (by omega)
  have hlt := h.lt
  have BW : Below w.heap.size w (w.alloc (.cells #[.int .i64 0, .string ⟨#[]⟩, .slice none 0 0] 51)) := (Below.refl _ _).alloc (Nat.le_refl _) _
  have HA := Lib.hid (h.later BW)
  have HBW := Lib.hid BW
  obtain ⟨c0, c1, c2, c3⟩ := h.cells
  have HR := Lib.hid (show (w.alloc (.cells #[.int .i64 0, .string ⟨#[]⟩, .slice none 0 0] 51)).heap[w.heap.size]? = some (.cells #[.int .i64 0, .string ⟨#[]⟩, .slice none 0 0] 51 (0, 0)) from heap_alloc_new w _)
  have HS := Lib.hid (show (w.alloc (.cells #[.int .i64 0, .string ⟨#[]⟩, .slice none 0 0] 51)).heap.size = w.heap.size + 1 by simp)
  clear h hov BW
  rcases HA.out.cod.2 with ⟨hcv, hz⟩ | ⟨g, cc, cur, hcv, _⟩
  · have hcv2 : cv = .slice none 0 0 := hcv
    subst hcv2
    obtain ⟨pr, lo, co, op⟩ := s
    obtain rfl : co = [] := List.eq_nil_of_length_eq_zero hz
    clear hz hcv h0
    go_enter Tryd.func50, Tryd.ntmps50
    go_upto_region 5 with fail
    obtain ⟨W0, hW0⟩ : ∃ W0, w.alloc (.cells #[.int .i64 0, .string ⟨#[]⟩, .slice none 0 0] 51) = W0 := ⟨_, rfl⟩
    rw [hW0] at HA HBW HR HS ⊢
    clear hW0 c0 c1 c2 c3
    obtain ⟨w1, hw1⟩ : ∃ w1, W0 = w1 := ⟨_, rfl⟩
    rw [hw1] at HA HBW HR HS ⊢
    clear hw1
    have HA1 := Lib.hid HA.out
    have HB1 := Lib.hid HBW.out
    have hrb := HR.out
    have hown : w1.ownsRow w.heap.size 36 4 (.slice none 0 0) 0 [] := World.ownsRow_nil _ _ _ _
    have HO1 := Lib.hid hown
    have HRB := Lib.hid hrb
    obtain ⟨_, k1, _, _⟩ := HA1.out.cells
    have p0 := cell_of_row w1 w.heap.size 0 _ _ _ hrb
    have p1 := cell_of_row w1 w.heap.size 1 _ _ _ hrb
    have p2 := cell_of_row w1 w.heap.size 2 _ _ _ hrb
    have fp := fun j => frozen_of_row w1 w.heap.size j _ _ hrb
    have hbl1 : bb < w1.heap.size := HA1.out.lt
    have hwl1 : w.heap.size < w1.heap.size := (Array.getElem?_eq_some_iff.1 hrb).1
    have HO2 := Lib.hid (hown.alloc (.cells (Ins.cells ⟨11, 0, 0⟩).toArray 36))
    have HL2 := Lib.hid (show 0 + 1 ≤ maxLen by unfold maxLen; omega)
    have HY2 := Lib.hid (show (0 + 1) * 48 ≤ 140737488355328 by omega)
    have HZ2 := Lib.hid (show w.heap.size ≤ (w1.alloc (.cells (Ins.cells ⟨11, 0, 0⟩).toArray 36)).heap.size by simp; omega)
    have HN2 := Lib.hid (news_at w1 (Ins.cells ⟨11, 0, 0⟩).toArray 36 (Ins.cells ⟨11, 0, 0⟩) rfl)
    have EL3 := Lib.hid (fun (w2 : World) (hg : (w1.alloc (.cells (Ins.cells ⟨11, 0, 0⟩).toArray 36)).drew.grownBy w2 (.slice none 0 0 : Value).ownBlock) => rloc_grown HA1.out HO1.out hg)
    have ER3 := Lib.hid (fun (w2 : World) (hg : (w1.alloc (.cells (Ins.cells ⟨11, 0, 0⟩).toArray 36)).drew.grownBy w2 (.slice none 0 0 : Value).ownBlock) => rres_grown HRB.out HO1.out hg)
    clear hown hrb
    go_wp2_with fail
    go_region_law ((refine step_append_own2 _ (by rfl) _ _ _ (by rfl) w.heap.size 36 i0 zeroIns 4 48 Tryd.underlying49 hi hz0 hz1 hz2 rfl (by decide) (.slice none 0 0) 0 [] (by rfl) HO2.out ⟨w1.heap.size, 0, none⟩ 1 1 (Ins.cells ⟨11, 0, 0⟩) (by rfl) rfl HN2.out (one_ins _) (by decide) HL2.out HY2.out HZ2.out ?_; intro g2 cap2 w2 hown2 hgrow2 hnb2; have el3 := EL3.out w2 hgrow2; have hr2 := ER3.out w2 hgrow2; have q0 := cell_of_row w2 w.heap.size 0 _ _ _ hr2; have q1 := cell_of_row w2 w.heap.size 1 _ _ _ hr2; have q2 := cell_of_row w2 w.heap.size 2 _ _ _ hr2; have fq := fun j => frozen_of_row w2 w.heap.size j _ _ hr2))
    all_goals
      have HF2 := Lib.hid (rdone_fin (s := ⟨pr, lo, [], op⟩) (kd := kd) (g2 := g2) (cap2 := cap2) HB1.out HO1.out hown2 hgrow2 hr2)
      clear hown2 hgrow2 hr2 hnb2
      go_wp2_with fail
      (try simp only [Exit.inBlock, Exit.then])
      refine bodyPost_ret (v := .tuple #[.agg #[.int .i64 kd, .string ⟨lo.toArray⟩, .slice (some ⟨g2, 0, none⟩) (0 + 1) cap2], .int .i64 0]) (by simp [results, Tryd.results50, go_sem, q0, q1, q2]) rfl ?_
      exact HF2.out _ _ _
  · have hcv2 : cv = .slice (some ⟨g, 0, none⟩) s.code.length cc := hcv
    subst hcv2
    clear hcv h0
    go_enter Tryd.func50, Tryd.ntmps50
    go_upto_region 4 with fail
    obtain ⟨W0, hW0⟩ : ∃ W0, w.alloc (.cells #[.int .i64 0, .string ⟨#[]⟩, .slice none 0 0] 51) = W0 := ⟨_, rfl⟩
    rw [hW0] at HA HBW HR HS ⊢
    clear hW0 c0 c1 c2 c3
    obtain ⟨_, _, c2, _⟩ := HA.out.cells
    have HN := Lib.hid (HA.out.cod.cells (g := g) rfl)
    have HL := Lib.hid (show 0 + s.code.length ≤ maxLen by unfold maxLen; omega)
    have HY := Lib.hid (show (0 + s.code.length) * 48 ≤ 140737488355328 by omega)
    have HCL := Lib.hid (show (codeV s.code).length = s.code.length * 4 from HA.out.cod.1)
    have HON := Lib.hid (show ∀ u ∈ codeV s.code, u.oneCell' = true from fun u hu => by obtain ⟨e, _, he⟩ := List.mem_flatMap.1 hu; exact one_ins e u he)
    go_wp2_with (at_builtin; refine wpList_append_own _ rfl _ _ 49 rfl w.heap.size 36 i0 zeroIns 4 48 Tryd.underlying49 hi hz0 hz1 hz2 rfl (by decide) _ 0 [] rfl (World.ownsRow_nil _ _ _ _) ⟨g, 0, none⟩ s.code.length cc (codeV s.code) rfl HCL.out HN.out HON.out HL.out HY.out HBW.out.size ?_)
    intro v' w1 hown hgrow _
    have hb01 : Below W0.heap.size W0 w1 := (Below.refl _ _).grown hgrow (Nat.le_refl _) (fun k hk => by cases hk)
    have HB1 := Lib.hid (HBW.out.trans (hb01.mono HBW.out.size))
    have HA1 := Lib.hid (HA.out.later hb01)
    have hrb := (hb01.block w.heap.size (by rw [HS.out]; omega)).trans HR.out
    clear hgrow hb01 c2
    have HO1 := Lib.hid hown
    have HRB := Lib.hid hrb
    obtain ⟨_, k1, _, _⟩ := HA1.out.cells
    have p0 := cell_of_row w1 w.heap.size 0 _ _ _ hrb
    have p1 := cell_of_row w1 w.heap.size 1 _ _ _ hrb
    have p2 := cell_of_row w1 w.heap.size 2 _ _ _ hrb
    have fp := fun j => frozen_of_row w1 w.heap.size j _ _ hrb
    have hbl1 : bb < w1.heap.size := HA1.out.lt
    have hwl1 : w.heap.size < w1.heap.size := (Array.getElem?_eq_some_iff.1 hrb).1
    have HO2 := Lib.hid (hown.alloc (.cells (Ins.cells ⟨11, 0, 0⟩).toArray 36))
    have HL2 := Lib.hid (show s.code.length + 1 ≤ maxLen by unfold maxLen; omega)
    have HY2 := Lib.hid (show (s.code.length + 1) * 48 ≤ 140737488355328 by omega)
    have HZ2 := Lib.hid (show w.heap.size ≤ (w1.alloc (.cells (Ins.cells ⟨11, 0, 0⟩).toArray 36)).heap.size by simp; omega)
    have HN2 := Lib.hid (news_at w1 (Ins.cells ⟨11, 0, 0⟩).toArray 36 (Ins.cells ⟨11, 0, 0⟩) rfl)
    have EL3 := Lib.hid (fun (w2 : World) (hg : (w1.alloc (.cells (Ins.cells ⟨11, 0, 0⟩).toArray 36)).drew.grownBy w2 v'.ownBlock) => rloc_grown HA1.out HO1.out hg)
    have ER3 := Lib.hid (fun (w2 : World) (hg : (w1.alloc (.cells (Ins.cells ⟨11, 0, 0⟩).toArray 36)).drew.grownBy w2 v'.ownBlock) => rres_grown HRB.out HO1.out hg)
    clear hown hrb
    go_wp2_with fail
    go_region_law ((refine step_append_own2 _ (by rfl) _ _ _ (by rfl) w.heap.size 36 i0 zeroIns 4 48 Tryd.underlying49 hi hz0 hz1 hz2 rfl (by decide) v' s.code.length (codeV s.code) (by rfl) HO2.out ⟨w1.heap.size, 0, none⟩ 1 1 (Ins.cells ⟨11, 0, 0⟩) (by rfl) rfl HN2.out (one_ins _) (by decide) HL2.out HY2.out HZ2.out ?_; intro g2 cap2 w2 hown2 hgrow2 hnb2; have el3 := EL3.out w2 hgrow2; have hr2 := ER3.out w2 hgrow2; have q0 := cell_of_row w2 w.heap.size 0 _ _ _ hr2; have q1 := cell_of_row w2 w.heap.size 1 _ _ _ hr2; have q2 := cell_of_row w2 w.heap.size 2 _ _ _ hr2; have fq := fun j => frozen_of_row w2 w.heap.size j _ _ hr2))
    all_goals
      have HF2 := Lib.hid (rdone_fin (s := s) (kd := kd) (g2 := g2) (cap2 := cap2) HB1.out HO1.out hown2 hgrow2 hr2)
      clear hown2 hgrow2 hr2 hnb2
      go_wp2_with fail
      (try simp only [Exit.inBlock, Exit.then])
      refine bodyPost_ret (v := .tuple #[.agg #[.int .i64 kd, .string ⟨s.locals.toArray⟩, .slice (some ⟨g2, 0, none⟩) (s.code.length + 1) cap2], .int .i64 0]) (by simp [results, Tryd.results50, go_sem, q0, q1, q2]) rfl ?_
      exact HF2.out _ _ _
end Go.Proofs.YtlbgbpgjccbbjaaDoor.Asm
