/-
  What package asm's Else, Close and Nest do. No condition beyond what each theorem names.
-/
import Derived.Test.YtlbgbpgjccbbjaaDoorAsmD
namespace Go.Proofs.YtlbgbpgjccbbjaaDoor.Asm
open Go.RowKit Go.Maps Go.Proofs.YtlbgbpgjccbbjaaDoor.Op
set_option linter.unusedVariables false
theorem openV_len (l : List Mk) : (openV l).length = l.length * 2 := by
  induction l with
  | nil => rfl
  | cons a l ih =>
    have h : openV (a :: l) = Mk.cells a ++ openV l := rfl
    rw [h, List.length_append, ih]
    simp [Mk.cells]
    omega
theorem openV_at : ∀ (l : List Mk) (k j : Nat) (m : Mk), l[k]? = some m → j < 2 → (openV l)[k * 2 + j]? = m.cells[j]?
  | [], k, j, m, h, _ => by simp at h
  | a :: l, 0, j, m, h, hj => by
    simp at h
    subst h
    rw [show openV (a :: l) = a.cells ++ openV l from rfl, List.getElem?_append_left (by simp [Mk.cells]; omega)]
    simp
  | a :: l, k + 1, j, m, h, hj => by
    rw [show openV (a :: l) = a.cells ++ openV l from rfl, List.getElem?_append_right (by simp [Mk.cells]; omega), ← openV_at l k j m (by simpa using h) hj]
    simp [Mk.cells]
    rw [show (k + 1) * 2 + j - 2 = k * 2 + j by omega]
/-- a cell of the row of what is open, stored anew -/
theorem BAt.storeOpe {w : World} {B bb : Nat} {lv cv : Value} {mb n g len cap : Nat} {s : St} (h : BAt w B bb ⟨lv, cv, .slice (some ⟨g, 0, none⟩) len cap, mb⟩ n s) (j : Nat) (u : Value) (l : List Mk) (hl : l.length = s.opens.length) (hset : openV l = (openV s.opens).set j u) : Upd w B bb ⟨lv, cv, .slice (some ⟨g, 0, none⟩) len cap, mb⟩ n { s with opens := l } (w.setCell ⟨g, j, none⟩ u) := by
  obtain ⟨r1, r2, r3, r4⟩ := h.rest
  have hn : len = s.opens.length := by
    rcases h.ope.2 with ⟨h', _⟩ | ⟨g', cap', cur, h', _⟩
    · simp at h'
    · simp only [Value.slice.injEq] at h'
      exact h'.2.1
  subst hn
  obtain ⟨ho, hg⟩ := h.ope.stored j u
  obtain ⟨D, hm, hN⟩ := h.nam
  refine ⟨⟨lv, cv, .slice (some ⟨g, 0, none⟩) s.opens.length cap, mb⟩, ⟨?_, h.low, ?_, ?_, ?_, h.mlow, D, ?_, hN⟩, fun k hk => .inl hk, Keeps.grown hg (fun k hk => .inr (.inr (.inr (.inl (by rw [← hk]; rfl)))))⟩
  · exact (hg.block bb h.lt (fun e => (r3 bb e.symm).1 rfl)).trans h.box
  · exact ownsRow_of h.loc (fun k hk => hg.block k (h.loc.lt k hk).2 (fun e => (r1 k hk).2.2.1 (by rw [e]; rfl)))
  · exact ownsRow_of h.cod (fun k hk => hg.block k (h.cod.lt k hk).2 (fun e => (r2 k hk).2.1 (by rw [e]; rfl)))
  · rw [hl, hset]
    exact ho
  · exact ownsMap_of hm (hg.block mb hm.lt (fun e => (r3 mb (by rw [e]; rfl)).2 rfl))
/-- the row of what is open, cut -/
theorem BAt.cutOpe {w : World} {B bb : Nat} {lv cv : Value} {mb n g len cap : Nat} {s : St} (h : BAt w B bb ⟨lv, cv, .slice (some ⟨g, 0, none⟩) len cap, mb⟩ n s) (l : List Mk) (m : Mk) (hl : s.opens = l ++ [m]) : Upd w B bb ⟨lv, cv, .slice (some ⟨g, 0, none⟩) len cap, mb⟩ n { s with opens := l } (w.setCell ⟨bb, 3, none⟩ (.slice (some ⟨g, 0, none⟩) l.length cap)) := by
  have hn : len = s.opens.length := by
    rcases h.ope.2 with ⟨h', _⟩ | ⟨g', cap', cur, h', _⟩
    · simp at h'
    · simp only [Value.slice.injEq] at h'
      exact h'.2.1
  subst hn
  have ht := ownsRow_take h.ope (m := l.length) (by rw [hl]; simp)
  rw [hl, openV_snoc, List.take_left' (by rw [openV_len])] at ht
  exact h.setOpe (World.grownBy.refl w _) ht (fun k hk => .inl hk)
theorem opens_form {w : World} {B bb : Nat} {lv cv ov : Value} {mb n : Nat} {s : St} (h : BAt w B bb ⟨lv, cv, ov, mb⟩ n s) : ∃ a cap, ov = .slice a s.opens.length cap := by
  rcases h.ope.2 with ⟨h1, h2⟩ | ⟨g, cap, cur, h1, _⟩
  · exact ⟨none, 0, by rw [h2]; exact h1⟩
  · exact ⟨_, cap, h1⟩
set_option maxRecDepth 100000 in
theorem nest_any (w : World) (B bb : Nat) (x : Bx) (n : Nat) (s : St) (h : BAt w B bb x n s) :
    Calls Tryd.prog 32 #[.pointer (some ⟨bb, 0, none⟩)] w fun e w' => e = .returned (.int .i64 s.opens.length) ∧ w = w' := by
  obtain ⟨lv, cv, ov, mb⟩ := x
  obtain ⟨a, cap, rfl⟩ := opens_form h
  obtain ⟨_, _, _, c3, _⟩ := h.cells
  clear h
  go_enter Tryd.func32, Tryd.ntmps32
  go_wp2_with fail
  go_ret
  exact ⟨rfl, rfl⟩
set_option maxRecDepth 100000 in
theorem else_empty (w : World) (B bb : Nat) (x : Bx) (n : Nat) (s : St) (h : BAt w B bb x n s) (h0 : s.opens = []) :
    Calls Tryd.prog 29 #[.pointer (some ⟨bb, 0, none⟩)] w fun e w' => e = .returned (.int .i64 1) ∧ w = w' := by
  obtain ⟨lv, cv, ov, mb⟩ := x
  obtain ⟨a, cap, hov⟩ := opens_form h
  rw [h0] at hov
  have hov2 : ov = .slice a 0 cap := hov
  subst hov2
  obtain ⟨_, _, _, c3, _⟩ := h.cells
  clear h hov
  go_enter Tryd.func29, Tryd.ntmps29
  go_wp2_with fail
  go_ret
  exact ⟨rfl, rfl⟩
set_option maxRecDepth 100000 in
theorem else_bad (w : World) (B bb : Nat) (x : Bx) (n : Nat) (s : St) (h : BAt w B bb x n s) (hlo : s.opens.length < 1000000) (l : List Mk) (m : Mk) (h0 : s.opens = l ++ [m]) (hm : (m.code != 4) = true) :
    Calls Tryd.prog 29 #[.pointer (some ⟨bb, 0, none⟩)] w fun e w' => e = .returned (.int .i64 1) ∧ w = w' := by
  obtain ⟨lv, cv, ov, mb⟩ := x
  have hlen : s.opens.length = l.length + 1 := by rw [h0]; simp
  obtain ⟨g, cap, hov⟩ := Go.Joins.ownsRow_form h.ope (by omega)
  have hov2 : ov = .slice (some ⟨g, 0, none⟩) (l.length + 1) cap := by rw [← hlen]; exact hov
  subst hov2
  have ho := h.ope
  rw [hlen] at ho
  have d0 : w.cell? ⟨g, l.length * 2, none⟩ = some (.int .i64 m.code) := by
    rw [ho.cellAt _ (by omega), h0, show l.length * 2 = l.length * 2 + 0 from rfl, openV_at _ l.length 0 m (by simp) (by decide)]
    rfl
  obtain ⟨_, _, _, c3, _⟩ := h.cells
  have hlx : l.length < 1000000 := by omega
  clear h hov ho hlen h0
  go_enter Tryd.func29, Tryd.ntmps29
  go_wp2_with fail
  go_ret
  exact ⟨rfl, rfl⟩
set_option maxRecDepth 100000 in
set_option maxHeartbeats 1000000 in
theorem else_ok (w : World) (B bb : Nat) (x : Bx) (n : Nat) (s : St) (h : BAt w B bb x n s) (hB : B ≤ w.heap.size) (hlc : s.code.length < 1000000) (hlo : s.opens.length < 1000000) (l : List Mk) (lab : ByteArray) (h0 : s.opens = l ++ [⟨4, lab⟩]) :
    Calls Tryd.prog 29 #[.pointer (some ⟨bb, 0, none⟩)] w fun e w' => e = .returned (.int .i64 0) ∧ Upd w B bb x n { s with code := s.code ++ [⟨5, 0, 0⟩], opens := l ++ [⟨5, lab⟩] } w' := by
  obtain ⟨lv, cv, ov, mb⟩ := x
  have hlen : s.opens.length = l.length + 1 := by rw [h0]; simp
  obtain ⟨g, cap, hov⟩ := Go.Joins.ownsRow_form h.ope (by omega)
  have hov2 : ov = .slice (some ⟨g, 0, none⟩) (l.length + 1) cap := by rw [← hlen]; exact hov
  subst hov2
  have ho := h.ope
  rw [hlen] at ho
  have d0 : w.cell? ⟨g, l.length * 2, none⟩ = some (.int .i64 4) := by
    rw [ho.cellAt _ (by omega), h0, show l.length * 2 = l.length * 2 + 0 from rfl, openV_at _ l.length 0 ⟨4, lab⟩ (by simp) (by decide)]
    rfl
  have f0 : w.frozen? ⟨g, l.length * 2, none⟩ = false := ho.frozenAt _
  have hu := h.storeOpe (l.length * 2) (.int .i64 5) (l ++ [⟨5, lab⟩]) (by rw [hlen]; simp) (by
    rw [h0, openV_snoc, openV_snoc, List.set_append_right _ _ (by rw [openV_len]; exact Nat.le_refl _), openV_len]
    simp [Mk.cells])
  have HU := Lib.hid hu
  have HA := Lib.hid h
  obtain ⟨_, _, _, c3, _⟩ := h.cells
  have hlx : l.length < 1000000 := by omega
  clear h hov ho hlen h0 hu
  go_enter Tryd.func29, Tryd.ntmps29
  go_wp2_with fail
  obtain ⟨W4, hW4⟩ : ∃ W4, w.setCell ⟨g, l.length * 2, none⟩ (.int .i64 5) = W4 := ⟨_, rfl⟩
  rw [hW4] at HU ⊢
  have hsz : W4.heap.size = w.heap.size := by rw [← hW4]; simp [World.setCell]
  clear hW4 c3 d0 f0
  obtain ⟨x4, hB4, hf4, hk4⟩ := HU.out
  refine (put_any 5 0 0 W4 B bb x4 n _ hB4 (by omega) hlc).mono ?_
  rintro e w5 ⟨rfl, hu5⟩
  have HU5 := Lib.hid (Upd.trans hf4 hk4 hu5)
  clear hu5 hB4 hf4 hk4 HU
  go_wp2_with fail
  go_ret
  exact ⟨rfl, HU5.out⟩
set_option maxRecDepth 100000 in
theorem close_empty (w : World) (B bb : Nat) (x : Bx) (n : Nat) (s : St) (h : BAt w B bb x n s) (h0 : s.opens = []) :
    Calls Tryd.prog 28 #[.pointer (some ⟨bb, 0, none⟩)] w fun e w' => e = .returned (.int .i64 1) ∧ w = w' := by
  obtain ⟨lv, cv, ov, mb⟩ := x
  obtain ⟨a, cap, hov⟩ := opens_form h
  rw [h0] at hov
  have hov2 : ov = .slice a 0 cap := hov
  subst hov2
  obtain ⟨_, _, _, c3, _⟩ := h.cells
  clear h hov
  go_enter Tryd.func28, Tryd.ntmps28
  go_wp2_with fail
  go_ret
  exact ⟨rfl, rfl⟩
set_option maxRecDepth 100000 in
set_option maxHeartbeats 1000000 in
theorem close_ok (w : World) (B bb : Nat) (x : Bx) (n : Nat) (s : St) (h : BAt w B bb x n s) (hB : B ≤ w.heap.size) (hlc : s.code.length < 1000000) (hlo : s.opens.length < 1000000) (l : List Mk) (m : Mk) (h0 : s.opens = l ++ [m]) :
    Calls Tryd.prog 28 #[.pointer (some ⟨bb, 0, none⟩)] w fun e w' => e = .returned (.int .i64 0) ∧ Upd w B bb x n { s with code := s.code ++ [⟨11, 0, 0⟩], opens := l } w' := by
  obtain ⟨lv, cv, ov, mb⟩ := x
  have hlen : s.opens.length = l.length + 1 := by rw [h0]; simp
  obtain ⟨g, cap, hov⟩ := Go.Joins.ownsRow_form h.ope (by omega)
  have hov2 : ov = .slice (some ⟨g, 0, none⟩) (l.length + 1) cap := by rw [← hlen]; exact hov
  subst hov2
  have hcap : l.length + 1 ≤ cap := by
    rcases h.ope.2 with ⟨h', _⟩ | ⟨g', cap', cur, h', _, _, hc, _⟩
    · simp at h'
    · simp only [Value.slice.injEq] at h'
      omega
  have hu := h.cutOpe l m h0
  have HU := Lib.hid hu
  have HA := Lib.hid h
  obtain ⟨_, _, _, c3, _⟩ := h.cells
  have fz := h.frozen 3
  have hlx : l.length < 1000000 := by omega
  clear h hov hlen h0 hu
  go_enter Tryd.func28, Tryd.ntmps28
  go_wp2_with fail
  obtain ⟨W4, hW4⟩ : ∃ W4, w.setCell ⟨bb, 3, none⟩ (.slice (some ⟨g, 0, none⟩) l.length cap) = W4 := ⟨_, rfl⟩
  rw [hW4] at HU ⊢
  have hsz : W4.heap.size = w.heap.size := by rw [← hW4]; simp [World.setCell]
  clear hW4 c3 fz
  obtain ⟨x4, hB4, hf4, hk4⟩ := HU.out
  refine (put_any 11 0 0 W4 B bb x4 n _ hB4 (by omega) hlc).mono ?_
  rintro e w5 ⟨rfl, hu5⟩
  have HU5 := Lib.hid (Upd.trans hf4 hk4 hu5)
  clear hu5 hB4 hf4 hk4 HU
  go_wp2_with fail
  go_ret
  exact ⟨rfl, HU5.out⟩
end Go.Proofs.YtlbgbpgjccbbjaaDoor.Asm
