/-
  What the reference's Else of chapter 17 does. No condition beyond what each theorem names.
-/
import Derived.Test.YtlbgbpgjccbbjaaDoorAsmRA
namespace Go.Proofs.YtlbgbpgjccbbjaaDoor.Asm
open Go.RowKit Go.Maps Go.Proofs.YtlbgbpgjccbbjaaDoor.Op
set_option linter.unusedVariables false
theorem ropens_form {w : World} {B bb : Nat} {P : ByteArray} {cv ov : Value} {s : St} (h : RAt w B bb P ⟨cv, ov⟩ s) : ∃ a cap, ov = .slice a s.opens.length cap := by
  rcases h.ope.2 with ⟨h1, h2⟩ | ⟨g, cap, cur, h1, _⟩
  · exact ⟨none, 0, by rw [h2]; exact h1⟩
  · exact ⟨_, cap, h1⟩
set_option maxRecDepth 100000 in
theorem relse_empty (w : World) (B bb : Nat) (P : ByteArray) (x : Rx) (s : St) (h : RAt w B bb P x s) (h0 : s.opens = []) :
    Calls Tryd.prog 45 #[.pointer (some ⟨bb, 0, none⟩)] w fun e w' => e = .returned (.int .i64 1) ∧ w = w' := by
  obtain ⟨cv, ov⟩ := x
  obtain ⟨a, cap, hov⟩ := ropens_form h
  rw [h0] at hov
  have hov2 : ov = .slice a 0 cap := hov
  subst hov2
  obtain ⟨_, _, _, c3⟩ := h.cells
  clear h hov
  go_enter Tryd.func45, Tryd.ntmps45
  go_wp2_with fail
  go_ret
  exact ⟨rfl, rfl⟩
set_option maxRecDepth 100000 in
theorem relse_bad (w : World) (B bb : Nat) (P : ByteArray) (x : Rx) (s : St) (h : RAt w B bb P x s) (hlo : s.opens.length < 1000000) (l : List Mk) (m : Mk) (h0 : s.opens = l ++ [m]) (hm : (m.code != 4) = true) :
    Calls Tryd.prog 45 #[.pointer (some ⟨bb, 0, none⟩)] w fun e w' => e = .returned (.int .i64 1) ∧ w = w' := by
  obtain ⟨cv, ov⟩ := x
  have hlen : s.opens.length = l.length + 1 := by rw [h0]; simp
  obtain ⟨g, cap, hov⟩ := Go.Joins.ownsRow_form h.ope (by omega)
  have hov2 : ov = .slice (some ⟨g, 0, none⟩) (l.length + 1) cap := by rw [← hlen]; exact hov
  subst hov2
  have ho := h.ope
  rw [hlen] at ho
  have d0 : w.cell? ⟨g, l.length * 2, none⟩ = some (.int .i64 m.code) := by
    rw [ho.cellAt _ (by omega), h0, show l.length * 2 = l.length * 2 + 0 from rfl, openV_at _ l.length 0 m (by simp) (by decide)]
    rfl
  obtain ⟨_, _, _, c3⟩ := h.cells
  have hlx : l.length < 1000000 := by omega
  clear h hov ho hlen h0
  go_enter Tryd.func45, Tryd.ntmps45
  go_wp2_with fail
  go_ret
  exact ⟨rfl, rfl⟩
/-- where the instruction is laid behind the code, in place -/
theorem rcode_end2 {w w1 : World} {B bb : Nat} {P : ByteArray} {cv ov v' : Value} {s : St} {o : Obj} {x : Ins} (hA : RAt w B bb P ⟨cv, ov⟩ s) (g : (w.alloc o).grownBy w1 cv.ownBlock) (own : w1.ownsRow B 36 4 v' (s.code.length + 1) (codeV s.code ++ x.cells)) (hnb : newBlock cv v' (w.alloc o)) : RUpd w B bb P ⟨cv, ov⟩ { s with code := s.code ++ [x] } (w1.setCell ⟨bb, 2, none⟩ v') :=
  hA.setCod (grown_alloc g) (by rw [codeV_snoc, List.length_append]; exact own) (newBlock_mono hnb (by simp))
set_option maxRecDepth 100000 in
set_option maxHeartbeats 2000000 in
theorem relse_ok (w : World) (B bb : Nat) (P : ByteArray) (x : Rx) (s : St) (h : RAt w B bb P x s) (hB : B ≤ w.heap.size) (hlc : s.code.length < 1000000) (hlo : s.opens.length < 1000000) (l : List Mk) (lab : ByteArray) (h0 : s.opens = l ++ [⟨4, lab⟩]) :
    Calls Tryd.prog 45 #[.pointer (some ⟨bb, 0, none⟩)] w fun e w' => e = .returned (.int .i64 0) ∧ RUpd w B bb P x { s with code := s.code ++ [⟨5, 0, 0⟩], opens := l ++ [⟨5, lab⟩] } w' := by
  obtain ⟨i0, hi, hz0, hz1, hz2⟩ := info_of info_ins
  obtain ⟨cv, ov⟩ := x
  have hlen : s.opens.length = l.length + 1 := by rw [h0]; simp
  obtain ⟨g, cap, hov⟩ := Go.Joins.ownsRow_form h.ope (by omega)
  have hov2 : ov = .slice (some ⟨g, 0, none⟩) (l.length + 1) cap := by rw [← hlen]; exact hov
  subst hov2
  have ho := h.ope
  rw [hlen] at ho
  have d0 : w.cell? ⟨g, l.length * 2, none⟩ = some (.int .i64 4) := by
    rw [ho.cellAt _ (by omega), h0, show l.length * 2 = l.length * 2 + 0 from rfl, openV_at _ l.length 0 ⟨4, lab⟩ (by simp) (by decide)]
    rfl
  have f0 : w.frozen? ⟨g, l.length * 2, none⟩ = false := ho.frozenAt _
  have hu := h.storeOpe (l.length * 2) (.int .i64 5) (l ++ [⟨5, lab⟩]) (by rw [hlen]; simp) (by
    rw [h0, openV_snoc, openV_snoc, List.set_append_right _ _ (by rw [openV_len]; exact Nat.le_refl _), openV_len]
    simp [Mk.cells])
  have HU := Lib.hid hu
  obtain ⟨_, _, _, c3⟩ := h.cells
  have hlx : l.length < 1000000 := by omega
  clear h hov ho hlen h0 hu
  go_enter Tryd.func45, Tryd.ntmps45
  go_upto_region 5 with fail
  obtain ⟨W4, hW4⟩ : ∃ W4, w.setCell ⟨g, l.length * 2, none⟩ (.int .i64 5) = W4 := ⟨_, rfl⟩
  rw [hW4] at HU ⊢
  have HSZ := Lib.hid (show W4.heap.size = w.heap.size by rw [← hW4]; simp [World.setCell])
  clear hW4 c3 d0 f0
  obtain ⟨⟨cv4, ov4⟩, hA4, hf4, hk4⟩ := HU.out
  have HA := Lib.hid hA4
  have HF := Lib.hid hf4
  have HK := Lib.hid hk4
  obtain ⟨_, _, k2, _⟩ := hA4.cells
  clear hA4 hf4 hk4
  have HN := Lib.hid (news_at W4 (Ins.cells ⟨5, 0, 0⟩).toArray 36 (Ins.cells ⟨5, 0, 0⟩) rfl)
  have HC4 := Lib.hid (show s.code.length + 1 ≤ maxLen by unfold maxLen; omega)
  have HC5 := Lib.hid (show (s.code.length + 1) * 48 ≤ 140737488355328 by omega)
  have HC6 := Lib.hid (show B ≤ (W4.alloc (.cells (Ins.cells ⟨5, 0, 0⟩).toArray 36)).heap.size by have := HSZ.out; simp; omega)
  go_wp2_with (at_builtin; refine wpList_append_own2 _ rfl _ _ 49 rfl B 36 i0 zeroIns 4 48 Tryd.underlying49 hi hz0 hz1 hz2 rfl (by decide) _ _ _ rfl (HA.out.cod.alloc _) ⟨W4.heap.size, 0, none⟩ 1 1 (Ins.cells ⟨5, 0, 0⟩) rfl rfl HN.out (one_ins _) (by decide) HC4.out HC5.out HC6.out ?_)
  intro v' w3 hown hgrow hnb
  obtain ⟨g', cap', rfl⟩ := Go.Joins.ownsRow_form hown (by omega)
  have hne : cv4.ownBlock ≠ some bb := fun e => (HA.out.rest.1 bb e).1 rfl
  have hbx : w3.heap[bb]? = W4.heap[bb]? := (grown_alloc hgrow).block bb HA.out.lt (Ne.symm hne)
  have fz1 : w3.frozen? ⟨bb, 2, none⟩ = false := (World.frozen?_of_block (a := ⟨bb, 2, none⟩) hbx).trans (HA.out.frozen 2)
  have cz : w3.cell? ⟨bb, 2, none⟩ = some cv4 := (World.cell?_of_block (a := ⟨bb, 2, none⟩) hbx).trans k2
  have HU5 := Lib.hid (RUpd.trans HF.out HK.out (rcode_end2 HA.out hgrow hown hnb))
  clear hown hgrow hnb hne hbx HU
  go_wp2_with fail
  go_ret
  exact ⟨rfl, HU5.out⟩
set_option maxRecDepth 100000 in
theorem rclose_empty (w : World) (B bb : Nat) (P : ByteArray) (x : Rx) (s : St) (h : RAt w B bb P x s) (h0 : s.opens = []) :
    Calls Tryd.prog 46 #[.pointer (some ⟨bb, 0, none⟩)] w fun e w' => e = .returned (.int .i64 1) ∧ w = w' := by
  obtain ⟨cv, ov⟩ := x
  obtain ⟨a, cap, hov⟩ := ropens_form h
  rw [h0] at hov
  have hov2 : ov = .slice a 0 cap := hov
  subst hov2
  obtain ⟨_, _, _, c3⟩ := h.cells
  clear h hov
  go_enter Tryd.func46, Tryd.ntmps46
  go_wp2_with fail
  go_ret
  exact ⟨rfl, rfl⟩
set_option maxRecDepth 100000 in
theorem cut_slice (g n cap m : Nat) (h : m ≤ cap) (w : World) : (Instr.slice 65 (.slice (some ⟨g, 0, none⟩) n cap) none (some (.int .i64 m)) none).run Tryd.prog w = .ok (.slice (some ⟨g, 0, none⟩) m cap) w := by
  rw [run_slice_h w 65 (some ⟨g, 0, none⟩) n cap Tryd.underlying65 .i64 (m : Int) (by omega) (by omega)]
  have hs : (sizeOf (Tryd.prog.elem 65)).run Tryd.prog w = .ok 2 w := by kernel_rfl
  rw [hs]
  simp [Result.andThen, sliced, Addr.add]
set_option maxRecDepth 100000 in
set_option maxHeartbeats 2000000 in
theorem rclose_ok (w : World) (B bb : Nat) (P : ByteArray) (x : Rx) (s : St) (h : RAt w B bb P x s) (hB : B ≤ w.heap.size) (hlc : s.code.length < 1000000) (hlo : s.opens.length < 1000000) (l : List Mk) (m : Mk) (h0 : s.opens = l ++ [m]) :
    Calls Tryd.prog 46 #[.pointer (some ⟨bb, 0, none⟩)] w fun e w' => e = .returned (.int .i64 0) ∧ RUpd w B bb P x { s with code := s.code ++ [⟨11, 0, 0⟩], opens := l } w' := by
  obtain ⟨i0, hi, hz0, hz1, hz2⟩ := info_of info_ins
  obtain ⟨cv, ov⟩ := x
  have hlen : s.opens.length = l.length + 1 := by rw [h0]; simp
  obtain ⟨g, cap, hov⟩ := Go.Joins.ownsRow_form h.ope (by omega)
  have hov2 : ov = .slice (some ⟨g, 0, none⟩) (l.length + 1) cap := by rw [← hlen]; exact hov
  subst hov2
  have hcap : l.length + 1 ≤ cap := by
    rcases h.ope.2 with ⟨h', _⟩ | ⟨g', cap', cur, h', _, _, hc, _⟩
    · simp at h'
    · simp only [Value.slice.injEq] at h'
      omega
  have hu := h.cutOpe l m h0
  have HU := Lib.hid hu
  obtain ⟨_, _, _, c3⟩ := h.cells
  have fz := h.frozen 3
  have hlx : l.length < 1000000 := by omega
  clear h hov hlen h0 hu
  go_enter Tryd.func46, Tryd.ntmps46
  have hwl : IntKind.i64.wrap (l.length : Int) = (l.length : Int) := IntWalk.i64_in _ (by omega)
  have hsl := cut_slice g (l.length + 1) cap l.length (by omega)
  go_upto_region 3 with fail
  go_still_tail 12, (by kernel_rfl)
  change wpList _ _ _ _ _ w.drew
  have c3d : w.drew.cell? ⟨bb, 3, none⟩ = some (.slice (some ⟨g, 0, none⟩) (l.length + 1) cap) := c3
  have fzd : w.drew.frozen? ⟨bb, 3, none⟩ = false := fz
  go_upto_region 4 with fail
  have HU := Lib.hid HU.out.drew
  obtain ⟨W4, hW4⟩ : ∃ W4, (w.setCell ⟨bb, 3, none⟩ (.slice (some ⟨g, 0, none⟩) l.length cap)).drew = W4 := ⟨_, rfl⟩
  rw [hW4] at HU ⊢
  have HSZ := Lib.hid (show W4.heap.size = w.heap.size by rw [← hW4]; simp [World.setCell])
  clear hW4 c3 fz c3d fzd
  obtain ⟨⟨cv4, ov4⟩, hA4, hf4, hk4⟩ := HU.out
  have HA := Lib.hid hA4
  have HF := Lib.hid hf4
  have HK := Lib.hid hk4
  obtain ⟨_, _, k2, _⟩ := hA4.cells
  clear hA4 hf4 hk4
  have HN := Lib.hid (news_at W4 (Ins.cells ⟨11, 0, 0⟩).toArray 36 (Ins.cells ⟨11, 0, 0⟩) rfl)
  have HC4 := Lib.hid (show s.code.length + 1 ≤ maxLen by unfold maxLen; omega)
  have HC5 := Lib.hid (show (s.code.length + 1) * 48 ≤ 140737488355328 by omega)
  have HC6 := Lib.hid (show B ≤ (W4.alloc (.cells (Ins.cells ⟨11, 0, 0⟩).toArray 36)).heap.size by have := HSZ.out; simp; omega)
  go_wp2_with (at_builtin; refine wpList_append_own2 _ rfl _ _ 49 rfl B 36 i0 zeroIns 4 48 Tryd.underlying49 hi hz0 hz1 hz2 rfl (by decide) _ _ _ rfl (HA.out.cod.alloc _) ⟨W4.heap.size, 0, none⟩ 1 1 (Ins.cells ⟨11, 0, 0⟩) rfl rfl HN.out (one_ins _) (by decide) HC4.out HC5.out HC6.out ?_)
  intro v' w3 hown hgrow hnb
  obtain ⟨g', cap', rfl⟩ := Go.Joins.ownsRow_form hown (by omega)
  have hne : cv4.ownBlock ≠ some bb := fun e => (HA.out.rest.1 bb e).1 rfl
  have hbx : w3.heap[bb]? = W4.heap[bb]? := (grown_alloc hgrow).block bb HA.out.lt (Ne.symm hne)
  have fz1 : w3.frozen? ⟨bb, 2, none⟩ = false := (World.frozen?_of_block (a := ⟨bb, 2, none⟩) hbx).trans (HA.out.frozen 2)
  have cz : w3.cell? ⟨bb, 2, none⟩ = some cv4 := (World.cell?_of_block (a := ⟨bb, 2, none⟩) hbx).trans k2
  have HU5 := Lib.hid (RUpd.trans HF.out HK.out (rcode_end2 HA.out hgrow hown hnb))
  clear hown hgrow hnb hne hbx HU
  go_wp2_with fail
  go_ret
  exact ⟨rfl, HU5.out⟩
end Go.Proofs.YtlbgbpgjccbbjaaDoor.Asm
