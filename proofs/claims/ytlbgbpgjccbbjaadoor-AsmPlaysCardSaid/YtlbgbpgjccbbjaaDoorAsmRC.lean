/-
  What the reference's Begin of chapter 17 does. No condition beyond what each theorem names.
-/
import Derived.Test.YtlbgbpgjccbbjaaDoorAsmRB
namespace Go.Proofs.YtlbgbpgjccbbjaaDoor.Asm
open Go.RowKit Go.Maps Go.Proofs.YtlbgbpgjccbbjaaDoor.Op
set_option linter.unusedVariables false
theorem info_rmk : (Tryd.prog.info? 119).map (fun i => (i.zero, i.size, i.bytes)) = some (some zeroMk, 2, 24) := by kernel_rfl
set_option maxRecDepth 100000 in
set_option maxHeartbeats 2000000 in
theorem rbegin_none (nm lab : ByteArray) (k : UInt8) (w : World) (bv : Value) (hc : codeOf nm.data.toList = none) :
    Calls Tryd.prog 44 #[bv, .string nm, .string lab, .int .u8 (k.toNat : Int)] w fun e w' => e = .returned (.int .i64 1) ∧ Below w.heap.size w w' := by
  have HC := Lib.hid hc
  clear hc
  go_enter Tryd.func44, Tryd.ntmps44
  go_wp2_with fail
  refine (rcode_any nm w 0 false (by rw [HC.out]; rfl) (by rw [HC.out]; rfl)).mono ?_
  rintro e w1 ⟨rfl, c1⟩
  have C1 := Lib.hid c1
  clear c1
  go_wp2_with fail
  go_ret
  exact ⟨rfl, C1.out⟩
set_option maxRecDepth 100000 in
set_option maxHeartbeats 2000000 in
theorem rbegin_other (nm lab : ByteArray) (k : UInt8) (w : World) (bv : Value) (c : Int) (hc : codeOf nm.data.toList = some c) (hb : blockB c = false) :
    Calls Tryd.prog 44 #[bv, .string nm, .string lab, .int .u8 (k.toNat : Int)] w fun e w' => e = .returned (.int .i64 1) ∧ Below w.heap.size w w' := by
  have HC := Lib.hid hc
  have hq : c < 2 ∨ 4 < c := by simp [blockB] at hb; omega
  clear hc hb
  rcases hq with hq | hq
  · have d1 : decide (c < 2) = true := decide_eq_true hq
    go_enter Tryd.func44, Tryd.ntmps44
    go_wp2_with fail
    refine (rcode_any nm w c true (by rw [HC.out]; rfl) (by rw [HC.out]; rfl)).mono ?_
    rintro e w1 ⟨rfl, c1⟩
    have C1 := Lib.hid c1
    clear c1
    go_wp2_with fail
    go_ret
    exact ⟨rfl, C1.out⟩
  · have d1 : decide (c < 2) = false := decide_eq_false (by omega)
    have d2 : decide (4 < c) = true := decide_eq_true hq
    go_enter Tryd.func44, Tryd.ntmps44
    go_wp2_with fail
    refine (rcode_any nm w c true (by rw [HC.out]; rfl) (by rw [HC.out]; rfl)).mono ?_
    rintro e w1 ⟨rfl, c1⟩
    have C1 := Lib.hid c1
    clear c1
    go_wp2_with fail
    go_ret
    exact ⟨rfl, C1.out⟩
theorem knum (k : UInt8) (n : Nat) (hn : n < 256) (b : Bool) (h : (k == UInt8.ofNat n) = b) : ((k.toNat : Int) == (n : Int)) = b := by
  rw [← h, Bool.eq_iff_iff, beq_iff_eq, beq_iff_eq, ← UInt8.toNat_inj]
  simp
  omega
theorem knumN (k : UInt8) (n : Nat) (hn : n < 256) (b : Bool) (h : (k == UInt8.ofNat n) = b) : ((k.toNat : Int) != (n : Int)) = !b := by
  rw [bne, knum k n hn b h]
set_option maxRecDepth 100000 in
set_option maxHeartbeats 2000000 in
theorem rbegin_kind (nm lab : ByteArray) (k : UInt8) (w : World) (bv : Value) (c : Int) (hc : codeOf nm.data.toList = some c) (hb : blockB c = true) (hk : kindB k = false) :
    Calls Tryd.prog 44 #[bv, .string nm, .string lab, .int .u8 (k.toNat : Int)] w fun e w' => e = .returned (.int .i64 1) ∧ Below w.heap.size w w' := by
  have HC := Lib.hid hc
  have hq : 2 ≤ c ∧ c ≤ 4 := by simp [blockB] at hb; omega
  simp only [kindB, Bool.or_eq_false_iff] at hk
  have k1 : ((k.toNat : Int) != 64) = true := knumN k 64 (by decide) _ hk.2
  have k2 : ((k.toNat : Int) != 126) = true := knumN k 126 (by decide) _ hk.1.2
  have k3 : ((k.toNat : Int) != 127) = true := knumN k 127 (by decide) _ hk.1.1
  have d1 : decide (c < 2) = false := decide_eq_false (by omega)
  have d2 : decide (4 < c) = false := decide_eq_false (by omega)
  clear hc hb hk hq
  go_enter Tryd.func44, Tryd.ntmps44
  go_wp2_with fail
  refine (rcode_any nm w c true (by rw [HC.out]; rfl) (by rw [HC.out]; rfl)).mono ?_
  rintro e w1 ⟨rfl, c1⟩
  have C1 := Lib.hid c1
  clear c1
  go_wp2_with fail
  go_ret
  exact ⟨rfl, C1.out⟩
theorem rope_end {w w1 : World} {B bb : Nat} {P : ByteArray} {cv ov v' : Value} {s : St} {o : Obj} {x : Mk} (hA : RAt w B bb P ⟨cv, ov⟩ s) (g : (w.alloc o).grownBy w1 ov.ownBlock) (own : w1.ownsRow B 119 2 v' (s.opens.length + 1) (openV s.opens ++ x.cells)) (hnb : newBlock ov v' (w.alloc o)) : RUpd w B bb P ⟨cv, ov⟩ { s with opens := s.opens ++ [x] } (w1.setCell ⟨bb, 3, none⟩ v') :=
  hA.setOpe (grown_alloc g) (by rw [openV_snoc, List.length_append]; exact own) (newBlock_mono hnb (by simp))
set_option maxRecDepth 100000 in
set_option maxHeartbeats 8000000 in
theorem rbegin_full (nm lab : ByteArray) (k : UInt8) (w : World) (B bb : Nat) (P : ByteArray) (x : Rx) (s : St) (h : RAt w B bb P x s) (c : Int) (hc : codeOf nm.data.toList = some c) (hb : blockB c = true) (hk : kindB k = true) (he : s.opens.length = 256) :
    Calls Tryd.prog 44 #[.pointer (some ⟨bb, 0, none⟩), .string nm, .string lab, .int .u8 (k.toNat : Int)] w fun e w' => e = .returned (.int .i64 5) ∧ Below w.heap.size w w' := by
  obtain ⟨cv, ov⟩ := x
  obtain ⟨a, cap, hov⟩ := ropens_form h
  subst hov
  have HC := Lib.hid hc
  have H0 := Lib.hid h
  have hq : 2 ≤ c ∧ c ≤ 4 := by simp [blockB] at hb; omega
  have d1 : decide (c < 2) = false := decide_eq_false (by omega)
  have d2 : decide (4 < c) = false := decide_eq_false (by omega)
  have d3 : ((s.opens.length : Int) == 256) = true := beq_iff_eq.2 (by omega)
  have hk3 : (((k.toNat : Int) != 64) = true ∧ ((k.toNat : Int) != 126) = true ∧ ((k.toNat : Int) != 127) = false) ∨ (((k.toNat : Int) != 64) = true ∧ ((k.toNat : Int) != 126) = false) ∨ ((k.toNat : Int) != 64) = false := by
    simp only [kindB, Bool.or_eq_true, beq_iff_eq] at hk
    rcases hk with (rfl | rfl) | rfl
    · exact .inl ⟨by decide, by decide, by decide⟩
    · exact .inr (.inl ⟨by decide, by decide⟩)
    · exact .inr (.inr (by decide))
  clear hc hb hk hq h he
  rcases hk3 with ⟨e1, e2, e3⟩ | ⟨e1, e2⟩ | e1
  all_goals
    go_enter Tryd.func44, Tryd.ntmps44
    go_wp2_with fail
    refine (rcode_any nm w c true (by rw [HC.out]; rfl) (by rw [HC.out]; rfl)).mono ?_
    rintro e w1 ⟨rfl, c1⟩
    have HC1 := Lib.hid c1
    obtain ⟨_, _, k2, k3⟩ := (H0.out.later c1).cells
    clear c1
    go_wp2_with fail
    go_ret
    exact ⟨rfl, HC1.out⟩
set_option maxRecDepth 100000 in
set_option maxHeartbeats 8000000 in
theorem rbegin_ok (nm lab : ByteArray) (k : UInt8) (w : World) (B bb : Nat) (P : ByteArray) (x : Rx) (s : St) (h : RAt w B bb P x s) (hB : B ≤ w.heap.size) (hlc : s.code.length < 1000000) (hlo : s.opens.length < 1000000) (c : Int) (hc : codeOf nm.data.toList = some c) (hb : blockB c = true) (hk : kindB k = true) (hne : s.opens.length ≠ 256) :
    Calls Tryd.prog 44 #[.pointer (some ⟨bb, 0, none⟩), .string nm, .string lab, .int .u8 (k.toNat : Int)] w fun e w' => e = .returned (.int .i64 0) ∧ RUpd w B bb P x { s with code := s.code ++ [⟨c, k.toNat, 0⟩], opens := s.opens ++ [⟨c, lab⟩] } w' := by
  obtain ⟨i0, hi, hz0, hz1, hz2⟩ := info_of info_ins
  obtain ⟨i1, hi', hy0, hy1, hy2⟩ := info_of info_rmk
  obtain ⟨cv, ov⟩ := x
  obtain ⟨a, cap, hov⟩ := ropens_form h
  subst hov
  have HC := Lib.hid hc
  have H0 := Lib.hid h
  have hq : 2 ≤ c ∧ c ≤ 4 := by simp [blockB] at hb; omega
  have d1 : decide (c < 2) = false := decide_eq_false (by omega)
  have d2 : decide (4 < c) = false := decide_eq_false (by omega)
  have d3 : ((s.opens.length : Int) == 256) = false := beq_eq_false_iff_ne.2 (by omega)
  have hk9 : k.toNat < 256 := k.toNat_lt
  have hk3 : (((k.toNat : Int) != 64) = true ∧ ((k.toNat : Int) != 126) = true ∧ ((k.toNat : Int) != 127) = false) ∨ (((k.toNat : Int) != 64) = true ∧ ((k.toNat : Int) != 126) = false) ∨ ((k.toNat : Int) != 64) = false := by
    simp only [kindB, Bool.or_eq_true, beq_iff_eq] at hk
    rcases hk with (rfl | rfl) | rfl
    · exact .inl ⟨by decide, by decide, by decide⟩
    · exact .inr (.inl ⟨by decide, by decide⟩)
    · exact .inr (.inr (by decide))
  clear hc hb hk hq h hne
  rcases hk3 with ⟨e1, e2, e3⟩ | ⟨e1, e2⟩ | e1
  all_goals
    go_enter Tryd.func44, Tryd.ntmps44
    go_wp2_with fail
    refine (rcode_any nm w c true (by rw [HC.out]; rfl) (by rw [HC.out]; rfl)).mono ?_
    rintro e w1 ⟨rfl, c1⟩
    have HC1 := Lib.hid c1
    have HA := Lib.hid (H0.out.later c1)
    obtain ⟨_, _, k2, k3⟩ := HA.out.cells
    have HSZ := Lib.hid (show B ≤ w1.heap.size from Nat.le_trans hB c1.size)
    clear c1
    have HN := Lib.hid (news_at w1 (Ins.cells ⟨c, k.toNat, 0⟩).toArray 36 (Ins.cells ⟨c, k.toNat, 0⟩) rfl)
    have HC4 := Lib.hid (show s.code.length + 1 ≤ maxLen by unfold maxLen; omega)
    have HC5 := Lib.hid (show (s.code.length + 1) * 48 ≤ 140737488355328 by omega)
    have HC6 := Lib.hid (show B ≤ (w1.alloc (.cells (Ins.cells ⟨c, k.toNat, 0⟩).toArray 36)).heap.size by have := HSZ.out; simp; omega)
    go_upto_region 6 with fail
    go_wp2_with (at_builtin; refine wpList_append_own2 _ rfl _ _ 49 rfl B 36 i0 zeroIns 4 48 Tryd.underlying49 hi hz0 hz1 hz2 rfl (by decide) _ _ _ rfl (HA.out.cod.alloc _) ⟨w1.heap.size, 0, none⟩ 1 1 (Ins.cells ⟨c, k.toNat, 0⟩) rfl rfl HN.out (one_ins _) (by decide) HC4.out HC5.out HC6.out ?_)
    intro v' w3 hown hgrow hnb
    obtain ⟨g', cap', rfl⟩ := Go.Joins.ownsRow_form hown (by omega)
    have hne : cv.ownBlock ≠ some bb := fun e => (HA.out.rest.1 bb e).1 rfl
    have hbx : w3.heap[bb]? = w1.heap[bb]? := (grown_alloc hgrow).block bb HA.out.lt (Ne.symm hne)
    have fz1 : w3.frozen? ⟨bb, 2, none⟩ = false := (World.frozen?_of_block (a := ⟨bb, 2, none⟩) hbx).trans (HA.out.frozen 2)
    have cz : w3.cell? ⟨bb, 2, none⟩ = some cv := (World.cell?_of_block (a := ⟨bb, 2, none⟩) hbx).trans k2
    have HU := Lib.hid (rcode_end2 HA.out hgrow hown hnb)
    have HSZ3 := Lib.hid (show B ≤ w3.heap.size from Nat.le_trans HSZ.out (grown_alloc hgrow).size)
    clear hown hgrow hnb hne hbx
    go_upto_region 7 with fail
    obtain ⟨W4, hW4⟩ : ∃ W4, w3.setCell ⟨bb, 2, none⟩ (.slice (some ⟨g', 0, none⟩) (s.code.length + 1) cap') = W4 := ⟨_, rfl⟩
    rw [hW4] at HU ⊢
    have HSZ4 := Lib.hid (show B ≤ W4.heap.size by rw [← hW4]; have := HSZ3.out; simp [World.setCell]; exact this)
    clear hW4 k2 k3 cz fz1
    obtain ⟨⟨cv4, ov4⟩, hA4, hf4, hk4⟩ := HU.out
    obtain ⟨a4, cap4, hov4⟩ := ropens_form hA4
    have hov5 : ov4 = .slice a4 s.opens.length cap4 := hov4
    subst hov5
    have HA4 := Lib.hid hA4
    have HF := Lib.hid hf4
    have HK := Lib.hid hk4
    obtain ⟨_, _, _, k3⟩ := hA4.cells
    have HN := Lib.hid (news_at W4 (Mk.cells ⟨c, lab⟩).toArray 119 (Mk.cells ⟨c, lab⟩) rfl)
    have HC4 := Lib.hid (show s.opens.length + 1 ≤ maxLen by unfold maxLen; omega)
    have HC5 := Lib.hid (show (s.opens.length + 1) * 24 ≤ 140737488355328 by omega)
    have HC6 := Lib.hid (show B ≤ (W4.alloc (.cells (Mk.cells ⟨c, lab⟩).toArray 119)).heap.size by have := HSZ4.out; simp; omega)
    clear hA4 hf4 hk4 HU hov4
    go_wp2_with (at_builtin; refine wpList_append_own2 _ rfl _ _ 65 rfl B 119 i1 zeroMk 2 24 Tryd.underlying65 hi' hy0 hy1 hy2 rfl (by decide) _ _ _ rfl (HA4.out.ope.alloc _) ⟨W4.heap.size, 0, none⟩ 1 1 (Mk.cells ⟨c, lab⟩) rfl rfl HN.out (one_mk _) (by decide) HC4.out HC5.out HC6.out ?_)
    intro v' w5 hown hgrow hnb
    obtain ⟨g5, cap5, rfl⟩ := Go.Joins.ownsRow_form hown (by omega)
    have hne : (Value.slice a4 s.opens.length cap4).ownBlock ≠ some bb := fun e => HA4.out.rest.2 bb e rfl
    have hbx : w5.heap[bb]? = W4.heap[bb]? := (grown_alloc hgrow).block bb HA4.out.lt (Ne.symm hne)
    have fz1 : w5.frozen? ⟨bb, 3, none⟩ = false := (World.frozen?_of_block (a := ⟨bb, 3, none⟩) hbx).trans (HA4.out.frozen 3)
    have cz : w5.cell? ⟨bb, 3, none⟩ = some (.slice a4 s.opens.length cap4) := (World.cell?_of_block (a := ⟨bb, 3, none⟩) hbx).trans k3
    have HU5 := Lib.hid ((RUpd.trans HF.out HK.out (rope_end HA4.out hgrow hown hnb)).after HC1.out)
    clear hown hgrow hnb hne hbx
    go_wp2_with fail
    go_ret
    exact ⟨rfl, HU5.out⟩
end Go.Proofs.YtlbgbpgjccbbjaaDoor.Asm
