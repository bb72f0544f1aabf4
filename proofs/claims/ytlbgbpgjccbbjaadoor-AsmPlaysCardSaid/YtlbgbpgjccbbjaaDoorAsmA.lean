/-
  What package asm's put, value and Local do. No condition beyond what each theorem names.
-/
import Derived.Test.YtlbgbpgjccbbjaaDoorAsmDefs
import Derived.Deep.RegionLaw
namespace Go.Proofs.YtlbgbpgjccbbjaaDoor.Asm
open Go.RowKit Go.Maps Go.Proofs.YtlbgbpgjccbbjaaDoor.Op
set_option linter.unusedVariables false
section
variable {P : Program} (w : World)
/-- append, and where what it answers lies -/
theorem run_append_own2 (base : Nat) (t ty e : TypeId) (i : TypeInfo) (z : Value) (size bytes : Nat) (ht : P.underlying t = some (.slice e)) (hi : P.info? e = some i) (hz : i.zero = some z)
    (hsize : i.size = size) (hby : i.bytes = bytes) (hzs : z.cells.size = size) (hsz : 0 < size)
    (v : Value) (n : Nat) (xs : List Value) (hown : w.ownsRow base e size v n xs)
    (a : Addr) (m c : Nat) (news : List Value) (hl : news.length = m * size) (hnews : ∀ j u, news[j]? = some u → w.cell? (a.add j) = some u) (h1 : ∀ u ∈ news, u.oneCell' = true)
    (h0 : 0 < m) (h63 : n + m ≤ maxLen) (hbytes : (n + m) * bytes ≤ 140737488355328) (hbase : base ≤ w.heap.size) :
    ∃ v' w', (Builtin.append_ #[t, t] ty #[v, .slice (some a) m c]).run P w = .ok v' w' ∧ w'.ownsRow base e size v' (n + m) (xs ++ news) ∧ w.grownBy w' v.ownBlock ∧ newBlock v v' w := by
  obtain ⟨v', w', hr, h2, h3, _⟩ := run_append_own (P := P) w base t ty e i z size bytes ht hi hz hsize hby hzs hsz v n xs hown a m c news hl hnews h1 h63 hbytes hbase
  refine ⟨v', w', hr, h2, h3, ?_⟩
  subst hsize
  subst hby
  have hsmall : n + m ≤ 9223372036854775807 := by simp only [maxLen] at h63; omega
  rcases hown.2 with ⟨rfl, rfl⟩ | ⟨g, cap, cur, rfl, hbg, hg, hnc, hcm, hcs, htake⟩
  · have hr2 := run_append_nil (P := P) w t ty e i z ht hi hz a m c news hl hnews h0 (by omega) (by have hb := hbytes; simp only [Nat.zero_add] at hb; omega)
    rw [hr] at hr2
    injection hr2 with e1 e2
    subst e1
    intro k hk
    exact .inr (by simp [Value.ownBlock] at hk; omega)
  · by_cases hroom : n + m ≤ cap
    · have hfit : n * i.size + news.length ≤ cur.size := by rw [hl, hcs, ← Nat.add_mul]; exact Nat.mul_le_mul_right _ hroom
      have hr2 := run_append_room (P := P) w t ty e i ht hi g n cap cur hg a m c news hl hnews h1 hroom hfit
      rw [hr] at hr2
      injection hr2 with e1 e2
      subst e1
      intro k hk
      exact .inl hk
    · have holds : ∀ j u, xs[j]? = some u → w.cell? ((⟨g, 0, none⟩ : Addr).add j) = some u := hown.cells (g := g) rfl
      have hr2 := run_append_grow (P := P) w t ty e i z ht hi hz ⟨g, 0, none⟩ n cap xs hown.1 holds a m c news hl hnews (by omega) (by omega) (growslice_fits (by omega) hbytes)
      rw [hr] at hr2
      injection hr2 with e1 e2
      subst e1
      intro k hk
      exact .inr (by simp [Value.ownBlock] at hk; omega)
theorem wp_append_own2 {o : Oper} {a : Act} {K : Act → World → Prop} {Q : Exit → Act → World → Prop} (s x : Operand) (t : TypeId)
    (ho : o.op = .call { callee := .builtin .append, args := #[s, x], argTypes := #[t, t] })
    (base : Nat) (e : TypeId) (i : TypeInfo) (z : Value) (size bytes : Nat) (ht : P.underlying t = some (.slice e)) (hi : P.info? e = some i) (hz : i.zero = some z)
    (hsize : i.size = size) (hby : i.bytes = bytes) (hzs : z.cells.size = size) (hsz : 0 < size)
    (v : Value) (n : Nat) (xs : List Value) (hs : a.eval s = v) (hown : w.ownsRow base e size v n xs)
    (ad : Addr) (m c : Nat) (news : List Value) (hx : a.eval x = .slice (some ad) m c) (hl : news.length = m * size) (hnews : ∀ j u, news[j]? = some u → w.cell? (ad.add j) = some u) (h1 : ∀ u ∈ news, u.oneCell' = true)
    (h0 : 0 < m) (h63 : n + m ≤ maxLen) (hbytes : (n + m) * bytes ≤ 140737488355328) (hbase : base ≤ w.heap.size)
    (h : ∀ v' w', w'.ownsRow base e size v' (n + m) (xs ++ news) → w.grownBy w' v.ownBlock → newBlock v v' w → K (a.put o.dst v') w') : o.wp P a w K Q := by
  obtain ⟨v', w', hr, h2, h3, h4⟩ := run_append_own2 (P := P) w base t o.type e i z size bytes ht hi hz hsize hby hzs hsz v n xs hown ad m c news hl hnews h1 h0 h63 hbytes hbase
  unfold Oper.wp execOp
  simp only [ho, resolve, invoke, builtin, Sem.run_bind, Sem.run_pure, Result.andThen_ok, List.map_toArray, List.map_cons, List.map_nil, hs, hx, hr]
  exact h v' w' h2 h3 h4
theorem wpList_append_own2 {ops : Array Oper} {rest : List Oper} {o : Oper} {a : Act} {Q : Exit → Act → World → Prop} (hgd : o.guard = none) (s x : Operand) (t : TypeId)
    (ho : o.op = .call { callee := .builtin .append, args := #[s, x], argTypes := #[t, t] })
    (base : Nat) (e : TypeId) (i : TypeInfo) (z : Value) (size bytes : Nat) (ht : P.underlying t = some (.slice e)) (hi : P.info? e = some i) (hz : i.zero = some z)
    (hsize : i.size = size) (hby : i.bytes = bytes) (hzs : z.cells.size = size) (hsz : 0 < size)
    (v : Value) (n : Nat) (xs : List Value) (hs : a.eval s = v) (hown : w.ownsRow base e size v n xs)
    (ad : Addr) (m c : Nat) (news : List Value) (hx : a.eval x = .slice (some ad) m c) (hl : news.length = m * size) (hnews : ∀ j u, news[j]? = some u → w.cell? (ad.add j) = some u) (h1 : ∀ u ∈ news, u.oneCell' = true)
    (h0 : 0 < m) (h63 : n + m ≤ maxLen) (hbytes : (n + m) * bytes ≤ 140737488355328) (hbase : base ≤ w.heap.size)
    (h : ∀ v' w', w'.ownsRow base e size v' (n + m) (xs ++ news) → w.grownBy w' v.ownBlock → newBlock v v' w → wpList P ops Q rest (a.put o.dst v') w') : wpList P ops Q (o :: rest) a w :=
  wpList_plain hgd fun _ hK => wp_append_own2 w s x t ho base e i z size bytes ht hi hz hsize hby hzs hsz v n xs hs hown ad m c news hx hl hnews h1 h0 h63 hbytes hbase fun v' w' h2 h3 h4 => hK _ _ (h v' w' h2 h3 h4)
/-- append, as one step of a region that draws -/
theorem step_append_own2 {ops : Array Oper} {o : Oper} {a : Act} {K : Act → World → Prop} {Q : Exit → Act → World → Prop} {E : Prop} (hg : o.guard = none) (s x : Operand) (t : TypeId)
    (ho : o.op = .call { callee := .builtin .append, args := #[s, x], argTypes := #[t, t] })
    (base : Nat) (e : TypeId) (i : TypeInfo) (z : Value) (size bytes : Nat) (ht : P.underlying t = some (.slice e)) (hi : P.info? e = some i) (hz : i.zero = some z)
    (hsize : i.size = size) (hby : i.bytes = bytes) (hzs : z.cells.size = size) (hsz : 0 < size)
    (v : Value) (n : Nat) (xs : List Value) (hs : a.eval s = v) (hown : w.ownsRow base e size v n xs)
    (ad : Addr) (m c : Nat) (news : List Value) (hx : a.eval x = .slice (some ad) m c) (hl : news.length = m * size) (hnews : ∀ j u, news[j]? = some u → w.cell? (ad.add j) = some u) (h1 : ∀ u ∈ news, u.oneCell' = true)
    (h0 : 0 < m) (h63 : n + m ≤ maxLen) (hbytes : (n + m) * bytes ≤ 140737488355328) (hbase : base ≤ w.heap.size)
    (h : ∀ g cap w', w'.ownsRow base e size (.slice (some ⟨g, 0, none⟩) (n + m) cap) (n + m) (xs ++ news) → w.grownBy w' v.ownBlock → newBlock v (.slice (some ⟨g, 0, none⟩) (n + m) cap) w → K (a.put o.dst (.slice (some ⟨g, 0, none⟩) (n + m) cap)) w') :
    if Region.wanted o (yielded ops a.tmps) = true then Oper.wp P o a w K Q else E := by
  have hw : Region.wanted o (yielded ops a.tmps) = true := by simp [Region.wanted, hg]
  rw [if_pos hw]
  refine wp_append_own2 w s x t ho base e i z size bytes ht hi hz hsize hby hzs hsz v n xs hs hown ad m c news hx hl hnews h1 h0 h63 hbytes hbase fun v' w' h2 h3 h4 => ?_
  obtain ⟨g, cap, rfl⟩ := Go.Joins.ownsRow_form h2 (by omega)
  exact h g cap w' h2 h3 h4
theorem news_at (W : World) (cs : Array Value) (T : TypeId) (xs : List Value) (h : cs.toList = xs) : ∀ (j : Nat) (u : Value), xs[j]? = some u → (W.alloc (.cells cs T)).cell? ((⟨W.heap.size, 0, none⟩ : Addr).add j) = some u := by
  subst h
  intro j u hj
  rw [show (⟨W.heap.size, 0, none⟩ : Addr).add j = ⟨W.heap.size, j, none⟩ by rw [Addr.add_lit, Nat.zero_add], World.cell?_alloc_at _ _ _ _ rfl, ← hj]
  simp
end
def zeroIns : Value := .agg #[.int .i64 0, .int .i64 0, .int .i64 0, .slice none 0 0]
def zeroMk : Value := .agg #[.int .i64 0, .string ⟨#[]⟩]
theorem info_ins : (Tryd.prog.info? 36).map (fun i => (i.zero, i.size, i.bytes)) = some (some zeroIns, 4, 48) := by kernel_rfl
theorem info_mk : (Tryd.prog.info? 91).map (fun i => (i.zero, i.size, i.bytes)) = some (some zeroMk, 2, 24) := by kernel_rfl
theorem info_u8 : (Tryd.prog.info? 5).map (fun i => (i.zero, i.size, i.bytes)) = some (some (.int .u8 0), 1, 1) := by kernel_rfl
theorem info_of {t : TypeId} {z : Value} {a b : Nat} (h : (Tryd.prog.info? t).map (fun i => (i.zero, i.size, i.bytes)) = some (some z, a, b)) : ∃ i, Tryd.prog.info? t = some i ∧ i.zero = some z ∧ i.size = a ∧ i.bytes = b := by
  rw [Option.map_eq_some_iff] at h
  obtain ⟨i, hi, he⟩ := h
  simp only [Prod.mk.injEq] at he
  exact ⟨i, hi, he.1, he.2.1, he.2.2⟩
theorem one_ins (x : Ins) : ∀ u ∈ x.cells, u.oneCell' = true := by
  intro u hu
  simp [Ins.cells] at hu
  rcases hu with rfl | rfl | rfl | rfl <;> rfl
theorem one_mk (x : Mk) : ∀ u ∈ x.cells, u.oneCell' = true := by
  intro u hu
  simp [Mk.cells] at hu
  rcases hu with rfl | rfl <;> rfl
theorem codeV_snoc (l : List Ins) (x : Ins) : codeV (l ++ [x]) = codeV l ++ x.cells := by simp [codeV]
theorem openV_snoc (l : List Mk) (x : Mk) : openV (l ++ [x]) = openV l ++ x.cells := by simp [openV]
theorem locV_snoc (l : List UInt8) (x : UInt8) : locV (l ++ [x]) = locV l ++ [.int .u8 (x.toNat : Int)] := by simp [locV]
theorem Upd.after {w wA w' : World} {B bb : Nat} {x : Bx} {n : Nat} {s : St} (hb : Below w.heap.size w wA) (u : Upd wA B bb x n s w') : Upd w B bb x n s w' :=
  Upd.trans (fun k hk => .inl hk) (.of_below hb) u
theorem BAt.cells {w : World} {B bb : Nat} {lv cv ov : Value} {mb n : Nat} {s : St} (h : BAt w B bb ⟨lv, cv, ov, mb⟩ n s) : w.cell? ⟨bb, 0, none⟩ = some (.int .i64 s.params) ∧ w.cell? ⟨bb, 1, none⟩ = some lv ∧ w.cell? ⟨bb, 2, none⟩ = some cv ∧ w.cell? ⟨bb, 3, none⟩ = some ov ∧ w.cell? ⟨bb, 4, none⟩ = some (.map (some mb)) := by
  have hb := h.box
  refine ⟨?_, ?_, ?_, ?_, ?_⟩ <;> (rw [cell_of_row w bb _ _ _ _ hb]; rfl)
theorem BAt.frozen {w : World} {B bb : Nat} {x : Bx} {n : Nat} {s : St} (h : BAt w B bb x n s) (j : Nat) : w.frozen? ⟨bb, j, none⟩ = false := frozen_of_row w bb j _ _ h.box
theorem newBlock_mono {v v' : Value} {w w0 : World} (h : newBlock v v' w) (hs : w0.heap.size ≤ w.heap.size) : newBlock v v' w0 := fun k hk => (h k hk).imp id (fun h1 => Nat.le_trans hs h1)
theorem grown_alloc {w w1 : World} {o : Obj} {row : Option Nat} (g : (w.alloc o).grownBy w1 row) : w.grownBy w1 row :=
  ⟨g.os, g.tape, g.output, Nat.le_trans (by simp) g.size, fun k hk hne => (g.block k (by simp; omega) hne).trans (Below.heap_alloc w o k hk)⟩
theorem drew_alloc {w w1 : World} {o : Obj} {row : Option Nat} (g : (w.alloc o).drew.grownBy w1 row) : w.grownBy w1 row :=
  grown_alloc (o := o) ⟨g.os, g.tape, g.output, g.size, g.block⟩
theorem code_end {w W0 w1 : World} {B bb : Nat} {lv cv ov v' : Value} {mb n : Nat} {s : St} {o : Obj} {x : Ins} (hA : BAt W0 B bb ⟨lv, cv, ov, mb⟩ n s) (hb : Below w.heap.size w W0) (g : (W0.alloc o).drew.grownBy w1 cv.ownBlock) (own : w1.ownsRow B 36 4 v' (s.code.length + 1) (codeV s.code ++ x.cells)) (hnb : newBlock cv v' (W0.alloc o).drew) : Upd w B bb ⟨lv, cv, ov, mb⟩ n { s with code := s.code ++ [x] } (w1.setCell ⟨bb, 2, none⟩ v') :=
  (hA.setCod (drew_alloc g) (by rw [codeV_snoc, List.length_append]; exact own) (newBlock_mono hnb (by show W0.heap.size ≤ (W0.alloc o).heap.size; simp))).after hb
set_option maxRecDepth 100000 in
set_option maxHeartbeats 1000000 in
theorem put_any (op a b : Int) (w : World) (B bb : Nat) (x : Bx) (n : Nat) (s : St) (h : BAt w B bb x n s) (hB : B ≤ w.heap.size) (hlen : s.code.length < 1000000) :
    Calls Tryd.prog 43 #[.pointer (some ⟨bb, 0, none⟩), .agg #[.int .i64 op, .int .i64 a, .int .i64 b, .slice none 0 0]] w fun e w' => e = .returned (.int .i64 0) ∧ Upd w B bb x n { s with code := s.code ++ [⟨op, a, b⟩] } w' := by
  obtain ⟨i0, hi, hz0, hz1, hz2⟩ := info_of info_ins
  obtain ⟨lv, cv, ov, mb⟩ := x
  have BW : Below w.heap.size w (w.alloc (.cells #[.int .i64 op, .int .i64 a, .int .i64 b, .slice none 0 0] 36)) := (Below.refl _ _).alloc (Nat.le_refl _) _
  have HA := Lib.hid (h.later BW)
  have HBW := Lib.hid BW
  have HR := Lib.hid (show (w.alloc (.cells #[.int .i64 op, .int .i64 a, .int .i64 b, .slice none 0 0] 36)).heap[w.heap.size]? = some (.cells #[.int .i64 op, .int .i64 a, .int .i64 b, .slice none 0 0] 36 (0, 0)) from heap_alloc_new w _)
  have HS := Lib.hid (show (w.alloc (.cells #[.int .i64 op, .int .i64 a, .int .i64 b, .slice none 0 0] 36)).heap.size = w.heap.size + 1 by simp)
  clear BW h
  go_enter Tryd.func43, Tryd.ntmps43
  go_wp2_with fail
  obtain ⟨W0, hW0⟩ : ∃ W0, w.alloc (.cells #[.int .i64 op, .int .i64 a, .int .i64 b, .slice none 0 0] 36) = W0 := ⟨_, rfl⟩
  rw [hW0] at HA HBW HR HS ⊢
  clear hW0
  obtain ⟨_, _, c2, _, _⟩ := HA.out.cells
  have r0 : W0.cell? ⟨w.heap.size, 0, none⟩ = some (.int .i64 op) := cell_of_row W0 _ _ _ _ _ HR.out
  have r1 : W0.cell? ⟨w.heap.size, 1, none⟩ = some (.int .i64 a) := cell_of_row W0 _ _ _ _ _ HR.out
  have r2 : W0.cell? ⟨w.heap.size, 2, none⟩ = some (.int .i64 b) := cell_of_row W0 _ _ _ _ _ HR.out
  have r3 : W0.cell? ⟨w.heap.size, 3, none⟩ = some (.slice none 0 0) := cell_of_row W0 _ _ _ _ _ HR.out
  have hbl : bb < W0.heap.size := HA.out.lt
  have hpl : w.heap.size < W0.heap.size := by rw [HS.out]; omega
  have fz := HA.out.frozen
  have HC := Lib.hid (show ∀ o : Obj, (W0.alloc o).ownsRow B 36 4 cv s.code.length (codeV s.code) from fun o => HA.out.cod.alloc o)
  have HL := Lib.hid (show s.code.length + 1 ≤ maxLen by unfold maxLen; omega)
  have HY := Lib.hid (show (s.code.length + 1) * 48 ≤ 140737488355328 by omega)
  have HZ := Lib.hid (show B ≤ (W0.alloc (.cells (Ins.cells ⟨op, a, b⟩).toArray 36)).heap.size by have := HBW.out.size; simp; omega)
  have HN := Lib.hid (news_at W0 (Ins.cells ⟨op, a, b⟩).toArray 36 (Ins.cells ⟨op, a, b⟩) rfl)
  have HNE := Lib.hid (show cv.ownBlock ≠ some bb from fun e => (HA.out.rest.2.1 bb e).1 rfl)
  go_region_law ((refine step_append_own2 _ (by rfl) _ _ _ (by rfl) B 36 i0 zeroIns 4 48 Tryd.underlying49 hi hz0 hz1 hz2 rfl (by decide) cv s.code.length (codeV s.code) (by rfl) (HC.out _) ⟨W0.heap.size, 0, none⟩ 1 1 (Ins.cells ⟨op, a, b⟩) (by rfl) rfl HN.out (one_ins _) (by decide) HL.out HY.out HZ.out ?_; intro g' cap' w1 hown hgrow hnb; have cz : w1.cell? ⟨bb, 2, none⟩ = some cv := hgrow.cell (a := ⟨bb, 2, none⟩) ((World.cell?_alloc_past _ _ _ hbl).trans c2) (Ne.symm HNE.out); have fz1 : w1.frozen? ⟨bb, 2, none⟩ = false := (World.frozen?_of_block (a := ⟨bb, 2, none⟩) (hgrow.block bb (by simp; omega) (Ne.symm HNE.out))).trans ((World.frozen?_alloc_past _ _ _ hbl).trans (fz 2))))
  all_goals
    have HU := Lib.hid (code_end HA.out HBW.out hgrow hown hnb)
    clear hgrow hown hnb
    go_wp2_with fail
    go_ret
    exact ⟨rfl, HU.out⟩
set_option maxRecDepth 100000 in
theorem value_any (k : UInt8) (w : World) : Calls Tryd.prog 41 #[.int .u8 (k.toNat : Int)] w fun e w' => e = .returned (.bool (k == 127 || k == 126)) ∧ w = w' := by
  have h127 : ((k.toNat : Int) == 127) = (k == 127) := by
    rw [Bool.eq_iff_iff, beq_iff_eq, beq_iff_eq, ← UInt8.toNat_inj]
    simp
    omega
  have h126 : ((k.toNat : Int) == 126) = (k == 126) := by
    rw [Bool.eq_iff_iff, beq_iff_eq, beq_iff_eq, ← UInt8.toNat_inj]
    simp
    omega
  go_enter Tryd.func41, Tryd.ntmps41
  go_wp2_with fail
  all_goals
    go_ret
    refine ⟨?_, rfl⟩
    refine congrArg (fun b => Ending.returned (.bool b)) ?_
    first | rfl | simp_all | (rw [← h127, ← h126]; simp_all)
set_option maxRecDepth 100000 in
theorem local_bad (k : UInt8) (w : World) (b : Value) (h : (k == 127 || k == 126) = false) : Calls Tryd.prog 24 #[b, .int .u8 (k.toNat : Int)] w fun e w' => e = .returned (.tuple #[.int .i64 0, .int .i64 1]) ∧ w = w' := by
  have H := Lib.hid h
  clear h
  go_enter Tryd.func24, Tryd.ntmps24
  go_wp2_with fail
  refine (value_any k _).mono ?_
  rintro e w1 ⟨rfl, rfl⟩
  rw [H.out]
  go_wp2_with fail
  go_ret2
  exact ⟨rfl, rfl⟩
set_option maxRecDepth 100000 in
theorem local_full (k : UInt8) (w : World) (B bb : Nat) (x : Bx) (n : Nat) (s : St) (h : BAt w B bb x n s) (hl : s.locals.length = 4000) (hk : (k == 127 || k == 126) = true) : Calls Tryd.prog 24 #[.pointer (some ⟨bb, 0, none⟩), .int .u8 (k.toNat : Int)] w fun e w' => e = .returned (.tuple #[.int .i64 0, .int .i64 5]) ∧ w = w' := by
  obtain ⟨lv, cv, ov, mb⟩ := x
  obtain ⟨g, cap, hlv⟩ := Go.Joins.ownsRow_form h.loc (by omega)
  have hlv2 : lv = .slice (some ⟨g, 0, none⟩) s.locals.length cap := hlv
  subst hlv2
  obtain ⟨_, c1, _, _, _⟩ := h.cells
  rw [hl] at c1
  have H := Lib.hid hk
  clear hk hl
  go_enter Tryd.func24, Tryd.ntmps24
  go_wp2_with fail
  refine (value_any k _).mono ?_
  rintro e w1 ⟨rfl, rfl⟩
  rw [H.out]
  go_wp2_with fail
  go_ret2
  exact ⟨rfl, rfl⟩
end Go.Proofs.YtlbgbpgjccbbjaaDoor.Asm
