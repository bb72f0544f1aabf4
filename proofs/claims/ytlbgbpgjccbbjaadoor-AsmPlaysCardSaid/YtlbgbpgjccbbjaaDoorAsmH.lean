/-
  What package asm's Done does. No condition beyond what each theorem names.
-/
import Derived.Test.YtlbgbpgjccbbjaaDoorAsmG
import Derived.Laws.BytesString
import Derived.Laws.IdiomStrings
import Derived.Laws.MakeOwn
namespace Go.Proofs.YtlbgbpgjccbbjaaDoor.Asm
open Go.RowKit Go.Maps Go.Proofs.YtlbgbpgjccbbjaaDoor.Op
set_option linter.unusedVariables false
theorem conv_loc {w : World} {B : Nat} {v : Value} {l : List UInt8} (h : w.ownsRow B 5 1 v l.length (locV l)) : (convert 46 9 v).run Tryd.prog w = .ok (.string ⟨l.toArray⟩) w := by
  rcases h.2 with ⟨rfl, h0⟩ | ⟨g, cap, cur, rfl, hr⟩
  · rw [run_convert_bytes_string w _ _ 5 none 0 0 Tryd.underlying46 Tryd.underlying5 Tryd.underlying9]
    obtain rfl : l = [] := List.eq_nil_of_length_eq_zero h0
    simp [Conv.bytesToString]
    rfl
  · rw [run_convert_bytes_string w _ _ 5 _ _ _ Tryd.underlying46 Tryd.underlying5 Tryd.underlying9]
    have hc := run_loadCells_list (P := Tryd.prog) (w := w) ⟨g, 0, none⟩ (locV l) (h.cells rfl)
    rw [h.1, Nat.mul_one] at hc
    rw [run_bytesToString w ⟨g, 0, none⟩ l.length cap (l.map fun b => (b.toNat : Int)) (by rw [hc]; simp [locV]), foldl_push_byteCells]
    simp
theorem own_form {w : World} {B : Nat} {e : TypeId} {size n : Nat} {v : Value} {xs : List Value} (h : w.ownsRow B e size v n xs) (hne : v ≠ .slice none 0 0) : ∃ g cap, v = .slice (some ⟨g, 0, none⟩) n cap := by
  rcases h.2 with ⟨h1, _⟩ | ⟨g, cap, cur, h1, _⟩
  · exact absurd h1 hne
  · exact ⟨g, cap, h1⟩
/-- append onto what the call made, as one step of a region that draws -/
theorem step_append_new {P : Program} {w : World} {ops : Array Oper} {o : Oper} {a : Act} {K : Act → World → Prop} {Q : Exit → Act → World → Prop} {E : Prop} (hg : o.guard = none) (s x : Operand) (t : TypeId)
    (ho : o.op = .call { callee := .builtin .append, args := #[s, x], argTypes := #[t, t] })
    (base : Nat) (e : TypeId) (i : TypeInfo) (z : Value) (size bytes : Nat) (ht : P.underlying t = some (.slice e)) (hi : P.info? e = some i) (hz : i.zero = some z)
    (hsize : i.size = size) (hby : i.bytes = bytes) (hzs : z.cells.size = size) (hsz : 0 < size)
    (v : Value) (n : Nat) (xs : List Value) (hs : a.eval s = v) (hown : w.ownsRow base e size v n xs) (hv : v ≠ .slice none 0 0)
    (ad : Addr) (m c : Nat) (news : List Value) (hx : a.eval x = .slice (some ad) m c) (hl : news.length = m * size) (hnews : ∀ j u, news[j]? = some u → w.cell? (ad.add j) = some u) (h1 : ∀ u ∈ news, u.oneCell' = true)
    (h63 : n + m ≤ maxLen) (hbytes : (n + m) * bytes ≤ 140737488355328) (hbase : base ≤ w.heap.size)
    (h : ∀ g cap w', w'.ownsRow base e size (.slice (some ⟨g, 0, none⟩) (n + m) cap) (n + m) (xs ++ news) → w.grownBy w' v.ownBlock → K (a.put o.dst (.slice (some ⟨g, 0, none⟩) (n + m) cap)) w') :
    if Region.wanted o (yielded ops a.tmps) = true then Oper.wp P o a w K Q else E := by
  have hw : Region.wanted o (yielded ops a.tmps) = true := by simp [Region.wanted, hg]
  rw [if_pos hw]
  refine wp_append_own w s x t ho base e i z size bytes ht hi hz hsize hby hzs hsz v n xs hs hown ad m c news hx hl hnews h1 h63 hbytes hbase fun v' w' h2 h3 h4 => ?_
  obtain ⟨g, cap, rfl⟩ := own_form h2 (fun e => hv (h4.1 e).1)
  exact h g cap w' h2 h3
theorem step_append_nil {P : Program} {w : World} {ops : Array Oper} {o : Oper} {a : Act} {K : Act → World → Prop} {Q : Exit → Act → World → Prop} {E : Prop} (hg : o.guard = none) (s x : Operand) (t : TypeId)
    (ho : o.op = .call { callee := .builtin .append, args := #[s, x], argTypes := #[t, t] })
    (base : Nat) (e : TypeId) (i : TypeInfo) (size : Nat) (ht : P.underlying t = some (.slice e)) (hi : P.info? e = some i)
    (v : Value) (n : Nat) (xs : List Value) (hs : a.eval s = v) (hown : w.ownsRow base e size v n xs) (hx : a.eval x = .slice none 0 0)
    (h : K (a.put o.dst v) w) :
    if Region.wanted o (yielded ops a.tmps) = true then Oper.wp P o a w K Q else E := by
  have hw : Region.wanted o (yielded ops a.tmps) = true := by simp [Region.wanted, hg]
  rw [if_pos hw]
  have hrun := run_append_owned_none (P := P) (w := w) base t o.type e i size ht hi v n xs hown
  unfold Oper.wp
  simp [execOp, ho, resolve, invoke, builtin, hs, hx, hrun, Result.andThen]
  exact h
theorem below_new {W0 w1 : World} {o : Obj} {n cap : Nat} (g : (W0.alloc o).drew.grownBy w1 (Value.slice (some ⟨W0.heap.size, 0, none⟩) n cap).ownBlock) : Below W0.heap.size W0 w1 :=
  ((Below.refl _ _).alloc (Nat.le_refl _) o).drew.grown g (by show W0.heap.size ≤ (W0.alloc o).heap.size; simp) (fun k hk => by simp [Value.ownBlock] at hk; omega)
theorem conv_grown {w1 w2 : World} {o : Obj} {B bb mb n B2 g m cap : Nat} {lv cv ov : Value} {s : St} {xs : List Value} (hA : BAt w1 B bb ⟨lv, cv, ov, mb⟩ n s) (ho : w1.ownsRow B2 36 4 (.slice (some ⟨g, 0, none⟩) m cap) m xs) (hg : (w1.alloc o).drew.grownBy w2 (some g)) : (convert 46 9 lv).run Tryd.prog w2 = .ok (.string ⟨s.locals.toArray⟩) w2 :=
  conv_loc (ownsRow_of hA.loc (fun k hk => (drew_alloc hg).block k (hA.loc.lt k hk).2 (fun e => kinds_ne hA.loc ho (by decide) k hk (by rw [e]; rfl))))
theorem res_grown {w1 w2 : World} {o : Obj} {B2 g m cap b : Nat} {cs : Array Value} {xs : List Value} (hr : w1.heap[b]? = some (.cells cs 51 (0, 0))) (ho : w1.ownsRow B2 36 4 (.slice (some ⟨g, 0, none⟩) m cap) m xs) (hg : (w1.alloc o).drew.grownBy w2 (some g)) : w2.heap[b]? = some (.cells cs 51 (0, 0)) :=
  ((drew_alloc hg).block b (Array.getElem?_eq_some_iff.1 hr).1 (fun e => kind_ne ho hr (by decide) (by rw [e]; rfl))).trans hr
theorem loc_grown {w1 w2 : World} {o : Obj} {B bb mb n B2 g m cap : Nat} {lv cv ov : Value} {s : St} {xs : List Value} (hA : BAt w1 B bb ⟨lv, cv, ov, mb⟩ n s) (ho : w1.ownsRow B2 36 4 (.slice (some ⟨g, 0, none⟩) m cap) m xs) (hg : (w1.alloc o).drew.grownBy w2 (some g)) : w2.cell? ⟨bb, 1, none⟩ = some lv :=
  (drew_alloc hg).cell (a := ⟨bb, 1, none⟩) hA.cells.2.1 (fun e => kind_ne ho hA.box (by decide) (by rw [show (some bb : Option Nat) = some g from e]; rfl))
/-- what Done answers where it answers -/
def MadeF (w : World) (kd : Int) (s : St) (e : Ending) (w' : World) : Prop := ∃ g cap, e = .returned (.tuple #[.agg #[.int .i64 kd, .string ⟨s.locals.toArray⟩, .slice (some ⟨g, 0, none⟩) (s.code.length + 1) cap], .int .i64 0]) ∧ w'.ownsRow w.heap.size 36 4 (.slice (some ⟨g, 0, none⟩) (s.code.length + 1) cap) (s.code.length + 1) (codeV (s.code ++ [⟨11, 0, 0⟩])) ∧ Below w.heap.size w w'
def doneBad (s : St) (kd : Int) : Bool := !s.opens.isEmpty || decide (kd < 0) || decide (4294967296 ≤ kd)
theorem done_end {w W0 w1 w2 : World} {o : Obj} {kd : Int} {s : St} {g' cap' g2 cap2 : Nat} {cs : Array Value} (hb : Below w.heap.size w W0) (hb1 : Below W0.heap.size W0 w1) (hs : w.heap.size < W0.heap.size) (ho1 : w1.ownsRow w.heap.size 36 4 (.slice (some ⟨g', 0, none⟩) s.code.length cap') s.code.length (codeV s.code)) (ho2 : w2.ownsRow w.heap.size 36 4 (.slice (some ⟨g2, 0, none⟩) (s.code.length + 1) cap2) (s.code.length + 1) (codeV s.code ++ Ins.cells ⟨11, 0, 0⟩)) (hg : (w1.alloc o).drew.grownBy w2 (Value.slice (some ⟨g', 0, none⟩) s.code.length cap').ownBlock) (hr : w2.heap[w.heap.size]? = some (.cells cs 51 (0, 0))) (u0 u1 u2 : Value) :
    MadeF w kd s (.returned (.tuple #[.agg #[.int .i64 kd, .string ⟨s.locals.toArray⟩, .slice (some ⟨g2, 0, none⟩) (s.code.length + 1) cap2], .int .i64 0])) (((w2.setCell ⟨w.heap.size, 0, none⟩ u0).setCell ⟨w.heap.size, 1, none⟩ u1).setCell ⟨w.heap.size, 2, none⟩ u2) := by
  have B1 := hb.trans (hb1.mono hb.size)
  have hg2 := drew_alloc hg
  have B2 := B1.grown hg2 B1.size (fun k hk => (ho1.lt k hk).1)
  refine ⟨g2, cap2, rfl, ?_, ((B2.setCell (Nat.le_refl _) _).setCell (Nat.le_refl _) _).setCell (Nat.le_refl _) _⟩
  rw [codeV_snoc]
  refine ownsRow_of ho2 (fun k hk => ?_)
  have hk2 : k ≠ w.heap.size := fun e => kind_ne ho2 hr (by decide) (by rw [hk, e])
  exact (Below.heap_setCell _ _ _ _ hk2).trans ((Below.heap_setCell _ _ _ _ hk2).trans (Below.heap_setCell _ _ _ _ hk2))
set_option maxRecDepth 100000 in
set_option maxHeartbeats 8000000 in
theorem done_ok (kd : Int) (w : World) (B bb : Nat) (x : Bx) (n : Nat) (s : St) (h : BAt w B bb x n s) (h0 : s.opens = []) (hl : s.code.length < 1000000) (hk0 : 0 ≤ kd) (hk1 : kd < 4294967296) :
    Calls Tryd.prog 25 #[.pointer (some ⟨bb, 0, none⟩), .int .i64 kd] w (MadeF w kd s) := by
  obtain ⟨i0, hi, hz0, hz1, hz2⟩ := info_of info_ins
  obtain ⟨lv, cv, ov, mb⟩ := x
  obtain ⟨a, cap, hov⟩ := opens_form h
  rw [h0] at hov
  have hov2 : ov = .slice a 0 cap := hov
  subst hov2
  have d1 : decide (kd < 0) = false := decide_eq_false (by omega)
  have d2 : kd / 4294967296 = 0 := by omega
  have hlt := h.lt
  have BW : Below w.heap.size w (w.alloc (.cells #[.int .i64 0, .string ⟨#[]⟩, .slice none 0 0] 51)) := (Below.refl _ _).alloc (Nat.le_refl _) _
  have HA := Lib.hid (h.later BW)
  have HBW := Lib.hid BW
  obtain ⟨c0, c1, c2, c3, c4⟩ := h.cells
  have HR := Lib.hid (show (w.alloc (.cells #[.int .i64 0, .string ⟨#[]⟩, .slice none 0 0] 51)).heap[w.heap.size]? = some (.cells #[.int .i64 0, .string ⟨#[]⟩, .slice none 0 0] 51 (0, 0)) from heap_alloc_new w _)
  have HS := Lib.hid (show (w.alloc (.cells #[.int .i64 0, .string ⟨#[]⟩, .slice none 0 0] 51)).heap.size = w.heap.size + 1 by simp)
  clear h hov BW
  go_enter Tryd.func25, Tryd.ntmps25
  go_wp2_with fail
  obtain ⟨W0, hW0⟩ : ∃ W0, w.alloc (.cells #[.int .i64 0, .string ⟨#[]⟩, .slice none 0 0] 51) = W0 := ⟨_, rfl⟩
  rw [hW0] at HA HBW HR HS ⊢
  clear hW0 c0 c1 c2 c3 c4
  obtain ⟨la, lc, rfl⟩ : ∃ a c, lv = .slice a s.locals.length c := by
    rcases HA.out.loc.2 with ⟨h1, h2⟩ | ⟨g, cap, cur, h1, _⟩
    · exact ⟨none, 0, by rw [h2]; exact h1⟩
    · exact ⟨_, cap, h1⟩
  have hbl : bb < W0.heap.size := HA.out.lt
  obtain ⟨MK, hMK⟩ : ∃ MK, madeCells zeroIns.cells ((s.code.length + 1) * 4) = MK := ⟨_, rfl⟩
  have hms : MK.size = (s.code.length + 1) * 4 := by rw [← hMK, size_madeCells]
  have hmk : ∀ W, (Instr.makeSlice 49 (.int .i64 0) (.int .i64 ((s.code.length : Int) + 1))).run Tryd.prog W = .ok (.slice (some ⟨W.heap.size, 0, none⟩) 0 (s.code.length + 1)) (W.alloc (.cells MK 36)) := fun W => by
    have := run_make (P := Tryd.prog) W 49 36 i0 zeroIns Tryd.underlying49 hi hz0 .i64 .i64 0 ((s.code.length : Int) + 1) (by omega) (by omega) (by rw [hz2]; omega) (by omega)
    rw [this, hz1, show ((s.code.length : Int) + 1).toNat = s.code.length + 1 by omega, hMK]
    rfl
  have HM := Lib.hid (show (W0.alloc (.cells MK 36)).ownsRow w.heap.size 36 4 (.slice (some ⟨W0.heap.size, 0, none⟩) 0 (s.code.length + 1)) 0 [] from World.ownsRow_made W0 MK (s.code.length + 1) HBW.out.size (by unfold maxLen; omega) hms)
  have HMB := Lib.hid ((Below.refl W0.heap.size W0).alloc (Nat.le_refl _) (.cells MK 36))
  clear hMK hms
  have HC := Lib.hid (HA.out.cod.alloc (.cells MK 36))
  have e1 : IntKind.i64.wrap ((s.code.length : Int) + 1) = (s.code.length : Int) + 1 := IntWalk.i64_in _ (by omega)
  rcases HA.out.cod.2 with ⟨hcv, hz⟩ | ⟨g, cc, cur, hcv, _⟩
  · have hcv2 : cv = .slice none 0 0 := hcv
    subst hcv2
    obtain ⟨pr, lo, co, op⟩ := s
    obtain rfl : co = [] := List.eq_nil_of_length_eq_zero hz
    have hmk1 : ∀ W, (Instr.makeSlice 49 (.int .i64 0) (.int .i64 1)).run Tryd.prog W = .ok (.slice (some ⟨W.heap.size, 0, none⟩) 0 1) (W.alloc (.cells MK 36)) := hmk
    have ew1 : IntKind.i64.wrap 1 = 1 := by decide
    obtain ⟨_, c1, c2, _, _⟩ := HA.out.cells
    clear hmk
    go_region_law (refine step_append_nil (by rfl) _ _ _ (by rfl) w.heap.size 36 i0 4 Tryd.underlying49 hi (.slice (some ⟨W0.heap.size, 0, none⟩) 0 1) 0 [] (by rfl) HM.out (by rfl) ?_)
    all_goals
      have hown := HM.out.drew
      have HB1 := Lib.hid HMB.out.drew
      obtain ⟨w1, hw1⟩ : ∃ w1, (W0.alloc (.cells MK 36)).drew = w1 := ⟨_, rfl⟩
      rw [hw1] at hown HB1 ⊢
      clear hw1 hmk1
      change w1.ownsRow w.heap.size 36 4 (.slice (some ⟨W0.heap.size, 0, none⟩) 0 1) 0 [] at hown
      have HA1 := Lib.hid (HA.out.later HB1.out)
      obtain ⟨_, d1', _, _, _⟩ := HA1.out.cells
      have p0 : w1.cell? ⟨w.heap.size, 0, none⟩ = some (.int .i64 0) := (HB1.out.cell (p := ⟨w.heap.size, 0, none⟩) (by show w.heap.size < W0.heap.size; rw [HS.out]; omega)).trans (cell_of_row W0 _ _ _ _ _ HR.out)
      have p1 : w1.cell? ⟨w.heap.size, 1, none⟩ = some (.string ⟨#[]⟩) := (HB1.out.cell (p := ⟨w.heap.size, 1, none⟩) (by show w.heap.size < W0.heap.size; rw [HS.out]; omega)).trans (cell_of_row W0 _ _ _ _ _ HR.out)
      have p2 : w1.cell? ⟨w.heap.size, 2, none⟩ = some (.slice none 0 0) := (HB1.out.cell (p := ⟨w.heap.size, 2, none⟩) (by show w.heap.size < W0.heap.size; rw [HS.out]; omega)).trans (cell_of_row W0 _ _ _ _ _ HR.out)
      have hrb : w1.heap[w.heap.size]? = some (.cells #[.int .i64 0, .string ⟨#[]⟩, .slice none 0 0] 51 (0, 0)) := (HB1.out.block _ (by rw [HS.out]; omega)).trans HR.out
      have HRB := Lib.hid hrb
      have hbl1 : bb < w1.heap.size := HA1.out.lt
      have hwl1 : w.heap.size < w1.heap.size := (Array.getElem?_eq_some_iff.1 hrb).1
      have HO1 := Lib.hid hown
      have HO2 := Lib.hid (hown.alloc (.cells (Ins.cells ⟨11, 0, 0⟩).toArray 36))
      have HL2 := Lib.hid (show 0 + 1 ≤ maxLen by unfold maxLen; decide)
      have HY2 := Lib.hid (show (0 + 1) * 48 ≤ 140737488355328 by decide)
      have HZ2 := Lib.hid (show w.heap.size ≤ (w1.alloc (.cells (Ins.cells ⟨11, 0, 0⟩).toArray 36)).heap.size by simp; omega)
      have HN2 := Lib.hid (news_at w1 (Ins.cells ⟨11, 0, 0⟩).toArray 36 (Ins.cells ⟨11, 0, 0⟩) rfl)
      have ec1 := conv_loc HA1.out.loc.drew
      have ec2 := conv_loc (HA1.out.loc.alloc (.cells #[.int .i64 11, .int .i64 0, .int .i64 0, .slice none 0 0] 36)).drew
      have EC3 := Lib.hid (fun (w2 : World) (hg : (w1.alloc (.cells (Ins.cells ⟨11, 0, 0⟩).toArray 36)).drew.grownBy w2 (some W0.heap.size)) => conv_grown HA1.out HO1.out hg)
      have EL3 := Lib.hid (fun (w2 : World) (hg : (w1.alloc (.cells (Ins.cells ⟨11, 0, 0⟩).toArray 36)).drew.grownBy w2 (some W0.heap.size)) => loc_grown HA1.out HO1.out hg)
      have ER3 := Lib.hid (fun (w2 : World) (hg : (w1.alloc (.cells (Ins.cells ⟨11, 0, 0⟩).toArray 36)).drew.grownBy w2 (some W0.heap.size)) => res_grown HRB.out HO1.out hg)
      clear hown hrb
      go_wp2_with fail
      go_region_law ((refine step_append_new (by rfl) _ _ _ (by rfl) w.heap.size 36 i0 zeroIns 4 48 Tryd.underlying49 hi hz0 hz1 hz2 rfl (by decide) (.slice (some ⟨W0.heap.size, 0, none⟩) 0 1) 0 [] (by rfl) HO2.out (by simp) ⟨w1.heap.size, 0, none⟩ 1 1 (Ins.cells ⟨11, 0, 0⟩) (by rfl) rfl HN2.out (one_ins _) HL2.out HY2.out HZ2.out ?_; intro g2 cap2 w2 hown2 hgrow2; have ec3 := EC3.out w2 hgrow2; have el3 := EL3.out w2 hgrow2; have hr2 := ER3.out w2 hgrow2; have q0 := cell_of_row w2 w.heap.size 0 _ _ _ hr2; have q1 := cell_of_row w2 w.heap.size 1 _ _ _ hr2; have q2 := cell_of_row w2 w.heap.size 2 _ _ _ hr2; have fq := fun j => frozen_of_row w2 w.heap.size j _ _ hr2))
      all_goals
        have HF2 := Lib.hid (done_end (s := ⟨pr, lo, [], op⟩) (kd := kd) (g' := W0.heap.size) (cap' := 1) (g2 := g2) (cap2 := cap2) HBW.out HB1.out (by rw [HS.out]; omega) HO1.out hown2 hgrow2 hr2)
        clear hown2 hgrow2 hr2 ec1 ec2 ec3
        go_wp2_with fail
        (try simp only [Exit.inBlock, Exit.then])
        refine bodyPost_ret (v := .tuple #[.agg #[.int .i64 kd, .string ⟨lo.toArray⟩, .slice (some ⟨g2, 0, none⟩) 1 cap2], .int .i64 0]) (by simp [results, Tryd.results25, go_sem, q0, q1, q2]) rfl ?_
        exact HF2.out _ _ _
  · have hcv2 : cv = .slice (some ⟨g, 0, none⟩) s.code.length cc := hcv
    subst hcv2
    obtain ⟨_, c1, c2, _, _⟩ := HA.out.cells
    have HN := Lib.hid (HC.out.cells (g := g) rfl)
    have HL := Lib.hid (show 0 + s.code.length ≤ maxLen by unfold maxLen; omega)
    have HY := Lib.hid (show (0 + s.code.length) * 48 ≤ 140737488355328 by omega)
    have HZ := Lib.hid (show w.heap.size ≤ (W0.alloc (.cells MK 36)).heap.size from Nat.le_trans HBW.out.size HMB.out.size)
    have HCL := Lib.hid (show (codeV s.code).length = s.code.length * 4 from HC.out.1)
    have HON := Lib.hid (show ∀ u ∈ codeV s.code, u.oneCell' = true from fun u hu => by obtain ⟨e, _, he⟩ := List.mem_flatMap.1 hu; exact one_ins e u he)
    go_region_law ((refine step_append_new (by rfl) _ _ _ (by rfl) w.heap.size 36 i0 zeroIns 4 48 Tryd.underlying49 hi hz0 hz1 hz2 rfl (by decide) (.slice (some ⟨W0.heap.size, 0, none⟩) 0 (s.code.length + 1)) 0 [] (by rfl) HM.out (by simp) ⟨g, 0, none⟩ s.code.length cc (codeV s.code) (by rfl) HCL.out HN.out HON.out HL.out HY.out HZ.out ?_; intro g' cap' w1 hown hgrow))
    all_goals
      simp only [Nat.zero_add, List.nil_append] at hown
      have HB1 := Lib.hid (below_new hgrow)
      clear hgrow
      have HA1 := Lib.hid (HA.out.later HB1.out)
      obtain ⟨_, d1', _, _, _⟩ := HA1.out.cells
      have p0 : w1.cell? ⟨w.heap.size, 0, none⟩ = some (.int .i64 0) := (HB1.out.cell (p := ⟨w.heap.size, 0, none⟩) (by show w.heap.size < W0.heap.size; rw [HS.out]; omega)).trans (cell_of_row W0 _ _ _ _ _ HR.out)
      have p1 : w1.cell? ⟨w.heap.size, 1, none⟩ = some (.string ⟨#[]⟩) := (HB1.out.cell (p := ⟨w.heap.size, 1, none⟩) (by show w.heap.size < W0.heap.size; rw [HS.out]; omega)).trans (cell_of_row W0 _ _ _ _ _ HR.out)
      have p2 : w1.cell? ⟨w.heap.size, 2, none⟩ = some (.slice none 0 0) := (HB1.out.cell (p := ⟨w.heap.size, 2, none⟩) (by show w.heap.size < W0.heap.size; rw [HS.out]; omega)).trans (cell_of_row W0 _ _ _ _ _ HR.out)
      have hrb : w1.heap[w.heap.size]? = some (.cells #[.int .i64 0, .string ⟨#[]⟩, .slice none 0 0] 51 (0, 0)) := (HB1.out.block _ (by rw [HS.out]; omega)).trans HR.out
      have HRB := Lib.hid hrb
      have hbl1 : bb < w1.heap.size := HA1.out.lt
      have hwl1 : w.heap.size < w1.heap.size := (Array.getElem?_eq_some_iff.1 hrb).1
      have HO1 := Lib.hid hown
      have HO2 := Lib.hid (hown.alloc (.cells (Ins.cells ⟨11, 0, 0⟩).toArray 36))
      have HL2 := Lib.hid (show s.code.length + 1 ≤ maxLen by unfold maxLen; omega)
      have HY2 := Lib.hid (show (s.code.length + 1) * 48 ≤ 140737488355328 by omega)
      have HZ2 := Lib.hid (show w.heap.size ≤ (w1.alloc (.cells (Ins.cells ⟨11, 0, 0⟩).toArray 36)).heap.size by simp; omega)
      have HN2 := Lib.hid (news_at w1 (Ins.cells ⟨11, 0, 0⟩).toArray 36 (Ins.cells ⟨11, 0, 0⟩) rfl)
      have ec1 := conv_loc HA1.out.loc.drew
      have ec2 := conv_loc (HA1.out.loc.alloc (.cells #[.int .i64 11, .int .i64 0, .int .i64 0, .slice none 0 0] 36)).drew
      have EC3 := Lib.hid (fun (w2 : World) (hg : (w1.alloc (.cells (Ins.cells ⟨11, 0, 0⟩).toArray 36)).drew.grownBy w2 (some g')) => conv_grown HA1.out HO1.out hg)
      have EL3 := Lib.hid (fun (w2 : World) (hg : (w1.alloc (.cells (Ins.cells ⟨11, 0, 0⟩).toArray 36)).drew.grownBy w2 (some g')) => loc_grown HA1.out HO1.out hg)
      have ER3 := Lib.hid (fun (w2 : World) (hg : (w1.alloc (.cells (Ins.cells ⟨11, 0, 0⟩).toArray 36)).drew.grownBy w2 (some g')) => res_grown HRB.out HO1.out hg)
      clear hown hrb
      go_wp2_with fail
      go_region_law ((refine step_append_new (by rfl) _ _ _ (by rfl) w.heap.size 36 i0 zeroIns 4 48 Tryd.underlying49 hi hz0 hz1 hz2 rfl (by decide) (.slice (some ⟨g', 0, none⟩) s.code.length cap') s.code.length (codeV s.code) (by rfl) HO2.out (by simp) ⟨w1.heap.size, 0, none⟩ 1 1 (Ins.cells ⟨11, 0, 0⟩) (by rfl) rfl HN2.out (one_ins _) HL2.out HY2.out HZ2.out ?_; intro g2 cap2 w2 hown2 hgrow2; have ec3 := EC3.out w2 hgrow2; have el3 := EL3.out w2 hgrow2; have hr2 := ER3.out w2 hgrow2; have q0 := cell_of_row w2 w.heap.size 0 _ _ _ hr2; have q1 := cell_of_row w2 w.heap.size 1 _ _ _ hr2; have q2 := cell_of_row w2 w.heap.size 2 _ _ _ hr2; have fq := fun j => frozen_of_row w2 w.heap.size j _ _ hr2))
      all_goals
        have HF2 := Lib.hid (done_end (kd := kd) HBW.out HB1.out (by rw [HS.out]; omega) HO1.out hown2 hgrow2 hr2)
        clear hown2 hgrow2 hr2 ec1 ec2 ec3 hmk e1
        go_wp2_with fail
        (try simp only [Exit.inBlock, Exit.then])
        refine bodyPost_ret (v := .tuple #[.agg #[.int .i64 kd, .string ⟨s.locals.toArray⟩, .slice (some ⟨g2, 0, none⟩) (s.code.length + 1) cap2], .int .i64 0]) (by simp [results, Tryd.results25, go_sem, q0, q1, q2]) rfl ?_
        exact HF2.out _ _ _
end Go.Proofs.YtlbgbpgjccbbjaaDoor.Asm
