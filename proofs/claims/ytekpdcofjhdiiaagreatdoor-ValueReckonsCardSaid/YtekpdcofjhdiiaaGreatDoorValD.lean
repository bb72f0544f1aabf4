/-
  ArithType and reckon of chapter 10. No condition beyond what each theorem names.
-/
import Derived.Test.YtekpdcofjhdiiaaGreatDoorValC
import Derived.Maps.OwnOps
import Derived.Maps.OwnSet
import Derived.Maps.Views
import Derived.OneCell
import Derived.KernelRfl
namespace Go.Proofs.YtekpdcofjhdiiaaGreatDoor.Val
open Go.RowKit Go.Maps
set_option linter.unusedVariables false
set_option linter.unusedSimpArgs false
def asIs (v : Value) : Option (DataW Value × List MemPlace) := some (.held v, [])
theorem keyed_u8 : Keyed Tryz.prog 5 := int_keyed Tryz.underlying5
theorem key_u8 (k : UInt8) : keyOf Tryz.prog 5 (.int .u8 (k.toNat : Int)) = some (.int .u8 (k.toNat : Int)) := keyOf_int_mk Tryz.underlying5 (by
  have := k.toNat_lt
  simp [Lit.wf, IntKind.min, IntKind.max, IntKind.signed, IntKind.bits]
  omega)
theorem zero_i64 (w : World) : (zeroValue 3).run Tryz.prog w = .ok (.int .i64 0) w := by kernel_rfl
theorem held_inj {a b : Value} (h : DataW.held a = DataW.held b) : a = b := by cases h; rfl
def scD (m1 m3 m4 : Int) : DataW Value := ((((DataW.map []).put (.int .u8 43) (.held (.int .i64 m1))).put (.int .u8 45) (.held (.int .i64 m1))).put (.int .u8 42) (.held (.int .i64 m3))).put (.int .u8 47) (.held (.int .i64 m4))
theorem scD_eq (m1 m3 m4 : Int) : scD m1 m3 m4 = .map [(.int .u8 42, .held (.int .i64 m3)), (.int .u8 43, .held (.int .i64 m1)), (.int .u8 45, .held (.int .i64 m1)), (.int .u8 47, .held (.int .i64 m4))] := by kernel_rfl
def scV (op : UInt8) (m1 m3 m4 : Int) : Int := if op == 43 || op == 45 then m1 else if op == 42 then m3 else if op == 47 then m4 else 0
def scOk (op : UInt8) : Bool := op == 43 || op == 45 || op == 42 || op == 47
theorem same_u8 (op : UInt8) (n : Nat) (hn : n < 256) : (Lit.int .u8 (n : Int)).sameKey (.int .u8 (op.toNat : Int)) = (op == UInt8.ofNat n) := by
  rw [Bool.eq_iff_iff, beq_iff_eq, ← UInt8.toNat_inj]
  simp [Lit.sameKey]
  omega
theorem scD_has (op : UInt8) (m1 m3 m4 : Int) : has (scD m1 m3 m4) (.int .u8 (op.toNat : Int)) = scOk op := by
  rw [scD_eq, Maps.has_eq]
  simp only [List.any_cons, List.any_nil, Bool.or_false]
  rw [show (Lit.int .u8 43).sameKey (.int .u8 (op.toNat : Int)) = (op == 43) from same_u8 op 43 (by decide), show (Lit.int .u8 45).sameKey (.int .u8 (op.toNat : Int)) = (op == 45) from same_u8 op 45 (by decide), show (Lit.int .u8 42).sameKey (.int .u8 (op.toNat : Int)) = (op == 42) from same_u8 op 42 (by decide), show (Lit.int .u8 47).sameKey (.int .u8 (op.toNat : Int)) = (op == 47) from same_u8 op 47 (by decide)]
  unfold scOk
  cases (op == 43) <;> cases (op == 45) <;> cases (op == 42) <;> cases (op == 47) <;> rfl
theorem scD_at (op : UInt8) (m1 m3 m4 : Int) : (scD m1 m3 m4).atKey (.int .u8 (op.toNat : Int)) (.held (.int .i64 0)) = .held (.int .i64 (scV op m1 m3 m4)) := by
  rw [scD_eq]
  simp only [DataW.atKey, List.find?_cons, List.find?_nil]
  rw [show (Lit.int .u8 43).sameKey (.int .u8 (op.toNat : Int)) = (op == 43) from same_u8 op 43 (by decide), show (Lit.int .u8 45).sameKey (.int .u8 (op.toNat : Int)) = (op == 45) from same_u8 op 45 (by decide), show (Lit.int .u8 42).sameKey (.int .u8 (op.toNat : Int)) = (op == 42) from same_u8 op 42 (by decide), show (Lit.int .u8 47).sameKey (.int .u8 (op.toNat : Int)) = (op == 47) from same_u8 op 47 (by decide)]
  unfold scV
  by_cases h : op = 42
  · subst h; rfl
  · rw [show (op == 42) = false from beq_eq_false_iff_ne.2 h]
    cases (op == 43) <;> cases (op == 45) <;> cases (op == 47) <;> rfl
theorem scales_map (W : World) (m1 m3 m4 : Int) (op : UInt8) : ∃ wa wb wc wd, (Instr.mapUpdate 71 (.map (some W.heap.size)) (.int .u8 43) (.int .i64 m1)).run Tryz.prog (W.alloc (.map #[] 0)) = .ok () wa ∧ (Instr.mapUpdate 71 (.map (some W.heap.size)) (.int .u8 45) (.int .i64 m1)).run Tryz.prog wa = .ok () wb ∧
    (Instr.mapUpdate 71 (.map (some W.heap.size)) (.int .u8 42) (.int .i64 m3)).run Tryz.prog wb = .ok () wc ∧ (Instr.mapUpdate 71 (.map (some W.heap.size)) (.int .u8 47) (.int .i64 m4)).run Tryz.prog wc = .ok () wd ∧
    (Instr.lookup 71 (.map (some W.heap.size)) (.int .u8 (op.toNat : Int)) true).run Tryz.prog wd = .ok (.tuple #[.int .i64 (scV op m1 m3 m4), .bool (scOk op)]) wd ∧ Below W.heap.size W wa ∧ Below W.heap.size W wb ∧ Below W.heap.size W wc ∧ Below W.heap.size W wd := by
  have h0 := World.ownsMap_made W Tryz.prog 5 asIs
  obtain ⟨wa, ra, oa, ga⟩ := h0.update (val := .int .i64 m1) keyed_u8 Tryz.underlying71 (by unfold maxLen; omega) (key_u8 43) rfl
  obtain ⟨wb, rb, ob, gb⟩ := oa.update (val := .int .i64 m1) keyed_u8 Tryz.underlying71 (by unfold maxLen; omega) (key_u8 45) rfl
  obtain ⟨wc, rc, oc, gc⟩ := ob.update (val := .int .i64 m3) keyed_u8 Tryz.underlying71 (by unfold maxLen; omega) (key_u8 42) rfl
  obtain ⟨wd, rd, od, gd⟩ := oc.update (val := .int .i64 m4) keyed_u8 Tryz.underlying71 (by unfold maxLen; omega) (key_u8 47) rfl
  obtain ⟨u, ps, hrun, hu⟩ := od.look_ok keyed_u8 Tryz.underlying71 (zero_i64 wd) (show asIs (.int .i64 0) = some (.held (.int .i64 0), []) from rfl) (key_u8 op)
  have hu1 : DataW.held u = (scD m1 m3 m4).atKey (.int .u8 (op.toNat : Int)) (.held (.int .i64 0)) := congrArg Prod.fst (Option.some.inj hu)
  rw [scD_at] at hu1
  obtain rfl := held_inj hu1
  have hh := scD_has op m1 m3 m4
  change has (((((DataW.map []).put (.int .u8 ((43 : UInt8).toNat : Int)) (.held (.int .i64 m1))).put (.int .u8 ((45 : UInt8).toNat : Int)) (.held (.int .i64 m1))).put (.int .u8 ((42 : UInt8).toNat : Int)) (.held (.int .i64 m3))).put (.int .u8 ((47 : UInt8).toNat : Int)) (.held (.int .i64 m4))) (.int .u8 (op.toNat : Int)) = scOk op at hh
  rw [hh] at hrun
  have B0 : Below W.heap.size W (W.alloc (.map #[] 0)) := (Below.refl _ _).alloc (Nat.le_refl _) _
  have Ba := B0.grown ga B0.size (fun k hk => by cases hk; exact Nat.le_refl _)
  have Bb := Ba.grown gb Ba.size (fun k hk => by cases hk; exact Nat.le_refl _)
  have Bc := Bb.grown gc Bb.size (fun k hk => by cases hk; exact Nat.le_refl _)
  have Bd := Bc.grown gd Bc.size (fun k hk => by cases hk; exact Nat.le_refl _)
  exact ⟨wa, wb, wc, wd, ra, rb, rc, rd, hrun, Ba, Bb, Bc, Bd⟩
theorem typed_kind {s : Int} (h : s ≠ 0) : (typed s).kind = 2 := by unfold typed; rw [if_neg h]
theorem typed_scale (s : Int) : (typed s).scale = s := by
  unfold typed
  split
  · rename_i h; exact h.symm
  · rfl
def ArgsAt (W : World) (b : Nat) (ka sa kb sb : Int) : Prop := W.heap[b]? = some (.cells #[.int .i64 ka, .int .i64 sa] 25 (0, 0)) ∧ W.heap[b + 1]? = some (.cells #[.int .i64 kb, .int .i64 sb] 25 (0, 0)) ∧ W.heap[b + 1 + 1]? = some (.cells #[.int .i64 0, .int .i64 0] 25 (0, 0))
theorem ArgsAt.later {W W' : World} {b : Nat} {ka sa kb sb : Int} (h : ArgsAt W b ka sa kb sb) (c : Below W.heap.size W W') : ArgsAt W' b ka sa kb sb :=
  ⟨(c.block b (Array.getElem?_eq_some_iff.1 h.1).1).trans h.1, (c.block _ (Array.getElem?_eq_some_iff.1 h.2.1).1).trans h.2.1, (c.block _ (Array.getElem?_eq_some_iff.1 h.2.2).1).trans h.2.2⟩
theorem ArgsAt.cells {W : World} {b : Nat} {ka sa kb sb : Int} (h : ArgsAt W b ka sa kb sb) : W.cell? ⟨b, 0, none⟩ = some (.int .i64 ka) ∧ W.cell? ⟨b, 1, none⟩ = some (.int .i64 sa) ∧ W.cell? ⟨b + 1, 0, none⟩ = some (.int .i64 kb) ∧ W.cell? ⟨b + 1, 1, none⟩ = some (.int .i64 sb) ∧ W.cell? ⟨b + 1 + 1, 0, none⟩ = some (.int .i64 0) ∧ W.cell? ⟨b + 1 + 1, 1, none⟩ = some (.int .i64 0) ∧ ∀ j, W.frozen? ⟨b + 1 + 1, j, none⟩ = false :=
  ⟨cell_of_row W b 0 _ _ _ h.1, cell_of_row W b 1 _ _ _ h.1, cell_of_row W _ 0 _ _ _ h.2.1, cell_of_row W _ 1 _ _ _ h.2.1, cell_of_row W _ 0 _ _ _ h.2.2, cell_of_row W _ 1 _ _ _ h.2.2, fun j => frozen_of_row W _ j _ _ h.2.2⟩
def args3 (w : World) (ka sa kb sb : Int) : World := ((w.alloc (.cells #[.int .i64 ka, .int .i64 sa] 25)).alloc (.cells #[.int .i64 kb, .int .i64 sb] 25)).alloc (.cells #[.int .i64 0, .int .i64 0] 25)
theorem args3_at (w : World) (ka sa kb sb : Int) : ArgsAt (args3 w ka sa kb sb) w.heap.size ka sa kb sb ∧ Below w.heap.size w (args3 w ka sa kb sb) ∧ (args3 w ka sa kb sb).heap.size = w.heap.size + 1 + 1 + 1 := by
  have b1 := below1 w (.cells #[.int .i64 ka, .int .i64 sa] 25)
  have b2 := (Below.refl (w.alloc (.cells #[.int .i64 ka, .int .i64 sa] 25)).heap.size _).alloc (Nat.le_refl _) (.cells #[.int .i64 kb, .int .i64 sb] 25)
  have b3 := (Below.refl ((w.alloc (.cells #[.int .i64 ka, .int .i64 sa] 25)).alloc (.cells #[.int .i64 kb, .int .i64 sb] 25)).heap.size _).alloc (Nat.le_refl _) (.cells #[.int .i64 0, .int .i64 0] 25)
  have h1 := heap_alloc_new w (.cells #[.int .i64 ka, .int .i64 sa] 25)
  have h2 := heap_alloc_new (w.alloc (.cells #[.int .i64 ka, .int .i64 sa] 25)) (.cells #[.int .i64 kb, .int .i64 sb] 25)
  have h3 := heap_alloc_new ((w.alloc (.cells #[.int .i64 ka, .int .i64 sa] 25)).alloc (.cells #[.int .i64 kb, .int .i64 sb] 25)) (.cells #[.int .i64 0, .int .i64 0] 25)
  rw [show (w.alloc (.cells #[.int .i64 ka, .int .i64 sa] 25)).heap.size = w.heap.size + 1 by simp] at h2
  rw [show ((w.alloc (.cells #[.int .i64 ka, .int .i64 sa] 25)).alloc (.cells #[.int .i64 kb, .int .i64 sb] 25)).heap.size = w.heap.size + 1 + 1 by simp] at h3
  refine ⟨⟨?_, ?_, h3⟩, (b1.trans (b2.mono b1.size)).trans (b3.mono (Nat.le_trans b1.size b2.size)), by unfold args3; simp⟩
  · exact ((b2.trans (b3.mono b2.size)).block _ (by simp)).trans h1
  · exact (b3.block _ (by simp)).trans h2
def AtyS (w : World) : Option Int → Ending → World → Prop
  | none, e, w' => e = .returned (.tuple #[.agg #[.int .i64 0, .int .i64 0], .bool false]) ∧ Below w.heap.size w w'
  | some s, e, w' => e = .returned (.tuple #[.agg #[.int .i64 (typed s).kind, .int .i64 (typed s).scale], .bool true]) ∧ Below w.heap.size w w'
theorem aty_none {w w1 : World} (c : Below w.heap.size w w1) (u0 u1 : Value) : AtyS w none (.returned (.tuple #[.agg #[.int .i64 0, .int .i64 0], .bool false])) ((w1.setCell ⟨w.heap.size + 1 + 1, 0, none⟩ u0).setCell ⟨w.heap.size + 1 + 1, 1, none⟩ u1) :=
  ⟨rfl, (c.setCell (by simp; omega) _).setCell (by simp; omega) _⟩
theorem aty_some {w w1 : World} {s k z : Int} (c : Below w.heap.size w w1) (hk : (typed s).kind = k) (hz : (typed s).scale = z) (u0 u1 : Value) : AtyS w (some s) (.returned (.tuple #[.agg #[.int .i64 k, .int .i64 z], .bool true])) ((w1.setCell ⟨w.heap.size + 1 + 1, 0, none⟩ u0).setCell ⟨w.heap.size + 1 + 1, 1, none⟩ u1) := by
  subst hk; subst hz
  exact ⟨rfl, (c.setCell (by simp; omega) _).setCell (by simp; omega) _⟩
theorem op_num (op : UInt8) (n : Nat) (hn : n < 256) : ((op.toNat : Int) == (n : Int)) = (op == UInt8.ofNat n) := by
  rw [Bool.eq_iff_iff, beq_iff_eq, beq_iff_eq, ← UInt8.toNat_inj]
  simp
  omega
set_option maxRecDepth 100000 in
set_option maxHeartbeats 2000000 in
theorem aty_op (op : UInt8) (ka sa kb sb : Int) (w : World) (V : Int) (hV : scV op (max sa sb) (wrap64 (sa + sb)) sa = V) (hk : scOk op = false) : Calls Tryz.prog 20 #[.int .u8 (op.toNat : Int), .agg #[.int .i64 ka, .int .i64 sa], .agg #[.int .i64 kb, .int .i64 sb]] w (AtyS w none) := by
  have HK := Lib.hid hk
  clear hk
  have hmm := @run_makeMap Tryz.prog
  obtain ⟨hA0, hB0, hS0⟩ := args3_at w ka sa kb sb
  obtain ⟨M, hM⟩ : ∃ M, max sa sb = M := ⟨_, rfl⟩
  obtain ⟨X, hX⟩ : ∃ X, wrap64 (sa + sb) = X := ⟨_, rfl⟩
  obtain ⟨wa, wb, wc, wd, ra, rb, rc, rd, rl, ba, bb, bc, bd⟩ := scales_map (args3 w ka sa kb sb) M X sa op
  rw [hS0] at ra rb rc rd rl
  have hlt := hS0
  obtain ⟨_, a1, _, a2, _, _, _⟩ := (hA0.later ba).cells
  obtain ⟨_, b1, _, b2, _, _, _⟩ := (hA0.later bb).cells
  obtain ⟨_, c1, _, c2, _, _, _⟩ := (hA0.later bc).cells
  have HA := Lib.hid (hA0.later bd)
  have CX := Lib.hid (hB0.trans (bd.mono hB0.size))
  have HM := Lib.hid hM
  have HX := Lib.hid hX
  rw [hM, hX] at hV
  rw [hV, HK.out] at rl
  unfold args3 at ra
  clear hA0 hB0 hS0 ba bb bc bd hV hlt
  obtain ⟨y0, y1, z0, z1, r0, r1, fr⟩ := HA.out.cells
  go_enter Tryz.func20, Tryz.ntmps20
  go_wp2_with fail
  exact bodyPost_ret (v := .tuple #[.agg #[.int .i64 0, .int .i64 0], .bool false]) (by simp [results, Tryz.results20, go_sem, r0, r1, fr]) rfl (aty_none CX.out _ _)
set_option maxRecDepth 100000 in
set_option maxHeartbeats 2000000 in
theorem aty_a (op : UInt8) (ka sa kb sb : Int) (w : World) (V : Int) (hV : scV op (max sa sb) (wrap64 (sa + sb)) sa = V) (hk : scOk op = true) (hna : numB ⟨ka, sa⟩ = false) : Calls Tryz.prog 20 #[.int .u8 (op.toNat : Int), .agg #[.int .i64 ka, .int .i64 sa], .agg #[.int .i64 kb, .int .i64 sb]] w (AtyS w none) := by
  have HK := Lib.hid hk
  clear hk
  have HNA := Lib.hid hna
  clear hna
  have hmm := @run_makeMap Tryz.prog
  obtain ⟨hA0, hB0, hS0⟩ := args3_at w ka sa kb sb
  obtain ⟨M, hM⟩ : ∃ M, max sa sb = M := ⟨_, rfl⟩
  obtain ⟨X, hX⟩ : ∃ X, wrap64 (sa + sb) = X := ⟨_, rfl⟩
  obtain ⟨wa, wb, wc, wd, ra, rb, rc, rd, rl, ba, bb, bc, bd⟩ := scales_map (args3 w ka sa kb sb) M X sa op
  rw [hS0] at ra rb rc rd rl
  have hlt := hS0
  obtain ⟨_, a1, _, a2, _, _, _⟩ := (hA0.later ba).cells
  obtain ⟨_, b1, _, b2, _, _, _⟩ := (hA0.later bb).cells
  obtain ⟨_, c1, _, c2, _, _, _⟩ := (hA0.later bc).cells
  have HA := Lib.hid (hA0.later bd)
  have CX := Lib.hid (hB0.trans (bd.mono hB0.size))
  have HM := Lib.hid hM
  have HX := Lib.hid hX
  rw [hM, hX] at hV
  rw [hV, HK.out] at rl
  unfold args3 at ra
  clear hA0 hB0 hS0 ba bb bc bd hV hlt
  obtain ⟨y0, y1, z0, z1, r0, r1, fr⟩ := HA.out.cells
  go_enter Tryz.func20, Tryz.ntmps20
  go_wp2_with fail
  refine (num_any _ _ _ _ HNA.out).mono ?_
  rintro e w5 ⟨rfl, c5⟩
  have HA := Lib.hid (HA.out.later c5)
  have CX := Lib.hid (CX.out.trans (c5.mono CX.out.size))
  clear c5 y0 y1 z0 z1 r0 r1 fr
  obtain ⟨y0, y1, z0, z1, r0, r1, fr⟩ := HA.out.cells
  go_wp2_with fail
  exact bodyPost_ret (v := .tuple #[.agg #[.int .i64 0, .int .i64 0], .bool false]) (by simp [results, Tryz.results20, go_sem, r0, r1, fr]) rfl (aty_none CX.out _ _)
set_option maxRecDepth 100000 in
set_option maxHeartbeats 2000000 in
theorem aty_b (op : UInt8) (ka sa kb sb : Int) (w : World) (V : Int) (hV : scV op (max sa sb) (wrap64 (sa + sb)) sa = V) (hk : scOk op = true) (hna : numB ⟨ka, sa⟩ = true) (hnb : numB ⟨kb, sb⟩ = false) : Calls Tryz.prog 20 #[.int .u8 (op.toNat : Int), .agg #[.int .i64 ka, .int .i64 sa], .agg #[.int .i64 kb, .int .i64 sb]] w (AtyS w none) := by
  have HK := Lib.hid hk
  clear hk
  have HNA := Lib.hid hna
  clear hna
  have HNB := Lib.hid hnb
  clear hnb
  have hmm := @run_makeMap Tryz.prog
  obtain ⟨hA0, hB0, hS0⟩ := args3_at w ka sa kb sb
  obtain ⟨M, hM⟩ : ∃ M, max sa sb = M := ⟨_, rfl⟩
  obtain ⟨X, hX⟩ : ∃ X, wrap64 (sa + sb) = X := ⟨_, rfl⟩
  obtain ⟨wa, wb, wc, wd, ra, rb, rc, rd, rl, ba, bb, bc, bd⟩ := scales_map (args3 w ka sa kb sb) M X sa op
  rw [hS0] at ra rb rc rd rl
  have hlt := hS0
  obtain ⟨_, a1, _, a2, _, _, _⟩ := (hA0.later ba).cells
  obtain ⟨_, b1, _, b2, _, _, _⟩ := (hA0.later bb).cells
  obtain ⟨_, c1, _, c2, _, _, _⟩ := (hA0.later bc).cells
  have HA := Lib.hid (hA0.later bd)
  have CX := Lib.hid (hB0.trans (bd.mono hB0.size))
  have HM := Lib.hid hM
  have HX := Lib.hid hX
  rw [hM, hX] at hV
  rw [hV, HK.out] at rl
  unfold args3 at ra
  clear hA0 hB0 hS0 ba bb bc bd hV hlt
  obtain ⟨y0, y1, z0, z1, r0, r1, fr⟩ := HA.out.cells
  go_enter Tryz.func20, Tryz.ntmps20
  go_wp2_with fail
  refine (num_any _ _ _ _ HNA.out).mono ?_
  rintro e w5 ⟨rfl, c5⟩
  have HA := Lib.hid (HA.out.later c5)
  have CX := Lib.hid (CX.out.trans (c5.mono CX.out.size))
  clear c5 y0 y1 z0 z1 r0 r1 fr
  obtain ⟨y0, y1, z0, z1, r0, r1, fr⟩ := HA.out.cells
  go_wp2_with fail
  refine (num_any _ _ _ _ HNB.out).mono ?_
  rintro e w6 ⟨rfl, c6⟩
  have HA := Lib.hid (HA.out.later c6)
  have CX := Lib.hid (CX.out.trans (c6.mono CX.out.size))
  clear c6 y0 y1 z0 z1 r0 r1 fr
  obtain ⟨y0, y1, z0, z1, r0, r1, fr⟩ := HA.out.cells
  go_wp2_with fail
  exact bodyPost_ret (v := .tuple #[.agg #[.int .i64 0, .int .i64 0], .bool false]) (by simp [results, Tryz.results20, go_sem, r0, r1, fr]) rfl (aty_none CX.out _ _)
set_option maxRecDepth 100000 in
set_option maxHeartbeats 2000000 in
theorem aty_big (op : UInt8) (ka sa kb sb : Int) (w : World) (V : Int) (hV : scV op (max sa sb) (wrap64 (sa + sb)) sa = V) (hk : scOk op = true) (hna : numB ⟨ka, sa⟩ = true) (hnb : numB ⟨kb, sb⟩ = true) (h9 : 9 < V) : Calls Tryz.prog 20 #[.int .u8 (op.toNat : Int), .agg #[.int .i64 ka, .int .i64 sa], .agg #[.int .i64 kb, .int .i64 sb]] w (AtyS w none) := by
  have HK := Lib.hid hk
  clear hk
  have HNA := Lib.hid hna
  clear hna
  have HNB := Lib.hid hnb
  clear hnb
  have d9 : decide (9 < V) = true := decide_eq_true h9
  have hmm := @run_makeMap Tryz.prog
  obtain ⟨hA0, hB0, hS0⟩ := args3_at w ka sa kb sb
  obtain ⟨M, hM⟩ : ∃ M, max sa sb = M := ⟨_, rfl⟩
  obtain ⟨X, hX⟩ : ∃ X, wrap64 (sa + sb) = X := ⟨_, rfl⟩
  obtain ⟨wa, wb, wc, wd, ra, rb, rc, rd, rl, ba, bb, bc, bd⟩ := scales_map (args3 w ka sa kb sb) M X sa op
  rw [hS0] at ra rb rc rd rl
  have hlt := hS0
  obtain ⟨_, a1, _, a2, _, _, _⟩ := (hA0.later ba).cells
  obtain ⟨_, b1, _, b2, _, _, _⟩ := (hA0.later bb).cells
  obtain ⟨_, c1, _, c2, _, _, _⟩ := (hA0.later bc).cells
  have HA := Lib.hid (hA0.later bd)
  have CX := Lib.hid (hB0.trans (bd.mono hB0.size))
  have HM := Lib.hid hM
  have HX := Lib.hid hX
  rw [hM, hX] at hV
  rw [hV, HK.out] at rl
  unfold args3 at ra
  clear hA0 hB0 hS0 ba bb bc bd hV hlt
  obtain ⟨y0, y1, z0, z1, r0, r1, fr⟩ := HA.out.cells
  go_enter Tryz.func20, Tryz.ntmps20
  go_wp2_with fail
  refine (num_any _ _ _ _ HNA.out).mono ?_
  rintro e w5 ⟨rfl, c5⟩
  have HA := Lib.hid (HA.out.later c5)
  have CX := Lib.hid (CX.out.trans (c5.mono CX.out.size))
  clear c5 y0 y1 z0 z1 r0 r1 fr
  obtain ⟨y0, y1, z0, z1, r0, r1, fr⟩ := HA.out.cells
  go_wp2_with fail
  refine (num_any _ _ _ _ HNB.out).mono ?_
  rintro e w6 ⟨rfl, c6⟩
  have HA := Lib.hid (HA.out.later c6)
  have CX := Lib.hid (CX.out.trans (c6.mono CX.out.size))
  clear c6 y0 y1 z0 z1 r0 r1 fr
  obtain ⟨y0, y1, z0, z1, r0, r1, fr⟩ := HA.out.cells
  go_wp2_with fail
  exact bodyPost_ret (v := .tuple #[.agg #[.int .i64 0, .int .i64 0], .bool false]) (by simp [results, Tryz.results20, go_sem, r0, r1, fr]) rfl (aty_none CX.out _ _)
set_option maxRecDepth 100000 in
set_option maxHeartbeats 2000000 in
theorem aty_div (op : UInt8) (ka sa kb sb : Int) (w : World) (V : Int) (hV : scV op (max sa sb) (wrap64 (sa + sb)) sa = V) (hk : scOk op = true) (hna : numB ⟨ka, sa⟩ = true) (hnb : numB ⟨kb, sb⟩ = true) (h9 : V ≤ 9) (h47 : op = 47) (hsb : 0 < sb) : Calls Tryz.prog 20 #[.int .u8 (op.toNat : Int), .agg #[.int .i64 ka, .int .i64 sa], .agg #[.int .i64 kb, .int .i64 sb]] w (AtyS w none) := by
  have HK := Lib.hid hk
  clear hk
  have HNA := Lib.hid hna
  clear hna
  have HNB := Lib.hid hnb
  clear hnb
  have d9 : decide (9 < V) = false := decide_eq_false (by omega)
  have e47 : ((op.toNat : Int) == 47) = true := by rw [h47]; rfl
  have d0 : decide (0 < sb) = true := decide_eq_true hsb
  clear h47
  have hmm := @run_makeMap Tryz.prog
  obtain ⟨hA0, hB0, hS0⟩ := args3_at w ka sa kb sb
  obtain ⟨M, hM⟩ : ∃ M, max sa sb = M := ⟨_, rfl⟩
  obtain ⟨X, hX⟩ : ∃ X, wrap64 (sa + sb) = X := ⟨_, rfl⟩
  obtain ⟨wa, wb, wc, wd, ra, rb, rc, rd, rl, ba, bb, bc, bd⟩ := scales_map (args3 w ka sa kb sb) M X sa op
  rw [hS0] at ra rb rc rd rl
  have hlt := hS0
  obtain ⟨_, a1, _, a2, _, _, _⟩ := (hA0.later ba).cells
  obtain ⟨_, b1, _, b2, _, _, _⟩ := (hA0.later bb).cells
  obtain ⟨_, c1, _, c2, _, _, _⟩ := (hA0.later bc).cells
  have HA := Lib.hid (hA0.later bd)
  have CX := Lib.hid (hB0.trans (bd.mono hB0.size))
  have HM := Lib.hid hM
  have HX := Lib.hid hX
  rw [hM, hX] at hV
  rw [hV, HK.out] at rl
  unfold args3 at ra
  clear hA0 hB0 hS0 ba bb bc bd hV hlt
  obtain ⟨y0, y1, z0, z1, r0, r1, fr⟩ := HA.out.cells
  go_enter Tryz.func20, Tryz.ntmps20
  go_wp2_with fail
  refine (num_any _ _ _ _ HNA.out).mono ?_
  rintro e w5 ⟨rfl, c5⟩
  have HA := Lib.hid (HA.out.later c5)
  have CX := Lib.hid (CX.out.trans (c5.mono CX.out.size))
  clear c5 y0 y1 z0 z1 r0 r1 fr
  obtain ⟨y0, y1, z0, z1, r0, r1, fr⟩ := HA.out.cells
  go_wp2_with fail
  refine (num_any _ _ _ _ HNB.out).mono ?_
  rintro e w6 ⟨rfl, c6⟩
  have HA := Lib.hid (HA.out.later c6)
  have CX := Lib.hid (CX.out.trans (c6.mono CX.out.size))
  clear c6 y0 y1 z0 z1 r0 r1 fr
  obtain ⟨y0, y1, z0, z1, r0, r1, fr⟩ := HA.out.cells
  go_wp2_with fail
  exact bodyPost_ret (v := .tuple #[.agg #[.int .i64 0, .int .i64 0], .bool false]) (by simp [results, Tryz.results20, go_sem, r0, r1, fr]) rfl (aty_none CX.out _ _)
set_option maxRecDepth 100000 in
set_option maxHeartbeats 2000000 in
theorem aty_zy (op : UInt8) (ka sa kb sb : Int) (w : World) (hV : scV op (max sa sb) (wrap64 (sa + sb)) sa = 0) (hk : scOk op = true) (hna : numB ⟨ka, sa⟩ = true) (hnb : numB ⟨kb, sb⟩ = true) (h47 : op = 47) (hsb : sb ≤ 0) : Calls Tryz.prog 20 #[.int .u8 (op.toNat : Int), .agg #[.int .i64 ka, .int .i64 sa], .agg #[.int .i64 kb, .int .i64 sb]] w (AtyS w (some 0)) := by
  have HK := Lib.hid hk
  clear hk
  have HNA := Lib.hid hna
  clear hna
  have HNB := Lib.hid hnb
  clear hnb
  have e47 : ((op.toNat : Int) == 47) = true := by rw [h47]; rfl
  have d0 : decide (0 < sb) = false := decide_eq_false (by omega)
  clear h47
  have hmm := @run_makeMap Tryz.prog
  obtain ⟨hA0, hB0, hS0⟩ := args3_at w ka sa kb sb
  obtain ⟨M, hM⟩ : ∃ M, max sa sb = M := ⟨_, rfl⟩
  obtain ⟨X, hX⟩ : ∃ X, wrap64 (sa + sb) = X := ⟨_, rfl⟩
  obtain ⟨wa, wb, wc, wd, ra, rb, rc, rd, rl, ba, bb, bc, bd⟩ := scales_map (args3 w ka sa kb sb) M X sa op
  rw [hS0] at ra rb rc rd rl
  have hlt := hS0
  obtain ⟨_, a1, _, a2, _, _, _⟩ := (hA0.later ba).cells
  obtain ⟨_, b1, _, b2, _, _, _⟩ := (hA0.later bb).cells
  obtain ⟨_, c1, _, c2, _, _, _⟩ := (hA0.later bc).cells
  have HA := Lib.hid (hA0.later bd)
  have CX := Lib.hid (hB0.trans (bd.mono hB0.size))
  have HM := Lib.hid hM
  have HX := Lib.hid hX
  rw [hM, hX] at hV
  rw [hV, HK.out] at rl
  unfold args3 at ra
  clear hA0 hB0 hS0 ba bb bc bd hV hlt
  obtain ⟨y0, y1, z0, z1, r0, r1, fr⟩ := HA.out.cells
  go_enter Tryz.func20, Tryz.ntmps20
  go_wp2_with fail
  refine (num_any _ _ _ _ HNA.out).mono ?_
  rintro e w5 ⟨rfl, c5⟩
  have HA := Lib.hid (HA.out.later c5)
  have CX := Lib.hid (CX.out.trans (c5.mono CX.out.size))
  clear c5 y0 y1 z0 z1 r0 r1 fr
  obtain ⟨y0, y1, z0, z1, r0, r1, fr⟩ := HA.out.cells
  go_wp2_with fail
  refine (num_any _ _ _ _ HNB.out).mono ?_
  rintro e w6 ⟨rfl, c6⟩
  have HA := Lib.hid (HA.out.later c6)
  have CX := Lib.hid (CX.out.trans (c6.mono CX.out.size))
  clear c6 y0 y1 z0 z1 r0 r1 fr
  obtain ⟨y0, y1, z0, z1, r0, r1, fr⟩ := HA.out.cells
  go_wp2_with fail
  exact bodyPost_ret (v := .tuple #[.agg #[.int .i64 1, .int .i64 0], .bool true]) (by simp [results, Tryz.results20, go_sem, r0, r1, fr]) rfl (aty_some CX.out rfl rfl _ _)
set_option maxRecDepth 100000 in
set_option maxHeartbeats 2000000 in
theorem aty_sy (op : UInt8) (ka sa kb sb : Int) (w : World) (V : Int) (hV : scV op (max sa sb) (wrap64 (sa + sb)) sa = V) (hk : scOk op = true) (hna : numB ⟨ka, sa⟩ = true) (hnb : numB ⟨kb, sb⟩ = true) (h9 : V ≤ 9) (hv0 : V ≠ 0) (h47 : op = 47) (hsb : sb ≤ 0) : Calls Tryz.prog 20 #[.int .u8 (op.toNat : Int), .agg #[.int .i64 ka, .int .i64 sa], .agg #[.int .i64 kb, .int .i64 sb]] w (AtyS w (some V)) := by
  have HK := Lib.hid hk
  clear hk
  have HNA := Lib.hid hna
  clear hna
  have HNB := Lib.hid hnb
  clear hnb
  have e47 : ((op.toNat : Int) == 47) = true := by rw [h47]; rfl
  have d0 : decide (0 < sb) = false := decide_eq_false (by omega)
  clear h47
  have d9 : decide (9 < V) = false := decide_eq_false (by omega)
  have ez : (V == 0) = false := beq_eq_false_iff_ne.2 hv0
  have HVN := Lib.hid hv0
  clear hv0
  have hmm := @run_makeMap Tryz.prog
  obtain ⟨hA0, hB0, hS0⟩ := args3_at w ka sa kb sb
  obtain ⟨M, hM⟩ : ∃ M, max sa sb = M := ⟨_, rfl⟩
  obtain ⟨X, hX⟩ : ∃ X, wrap64 (sa + sb) = X := ⟨_, rfl⟩
  obtain ⟨wa, wb, wc, wd, ra, rb, rc, rd, rl, ba, bb, bc, bd⟩ := scales_map (args3 w ka sa kb sb) M X sa op
  rw [hS0] at ra rb rc rd rl
  have hlt := hS0
  obtain ⟨_, a1, _, a2, _, _, _⟩ := (hA0.later ba).cells
  obtain ⟨_, b1, _, b2, _, _, _⟩ := (hA0.later bb).cells
  obtain ⟨_, c1, _, c2, _, _, _⟩ := (hA0.later bc).cells
  have HA := Lib.hid (hA0.later bd)
  have CX := Lib.hid (hB0.trans (bd.mono hB0.size))
  have HM := Lib.hid hM
  have HX := Lib.hid hX
  rw [hM, hX] at hV
  rw [hV, HK.out] at rl
  unfold args3 at ra
  clear hA0 hB0 hS0 ba bb bc bd hV hlt
  obtain ⟨y0, y1, z0, z1, r0, r1, fr⟩ := HA.out.cells
  go_enter Tryz.func20, Tryz.ntmps20
  go_wp2_with fail
  refine (num_any _ _ _ _ HNA.out).mono ?_
  rintro e w5 ⟨rfl, c5⟩
  have HA := Lib.hid (HA.out.later c5)
  have CX := Lib.hid (CX.out.trans (c5.mono CX.out.size))
  clear c5 y0 y1 z0 z1 r0 r1 fr
  obtain ⟨y0, y1, z0, z1, r0, r1, fr⟩ := HA.out.cells
  go_wp2_with fail
  refine (num_any _ _ _ _ HNB.out).mono ?_
  rintro e w6 ⟨rfl, c6⟩
  have HA := Lib.hid (HA.out.later c6)
  have CX := Lib.hid (CX.out.trans (c6.mono CX.out.size))
  clear c6 y0 y1 z0 z1 r0 r1 fr
  obtain ⟨y0, y1, z0, z1, r0, r1, fr⟩ := HA.out.cells
  go_wp2_with fail
  exact bodyPost_ret (v := .tuple #[.agg #[.int .i64 2, .int .i64 V], .bool true]) (by simp [results, Tryz.results20, go_sem, r0, r1, fr]) rfl (aty_some CX.out (typed_kind HVN.out) (typed_scale _) _ _)
set_option maxRecDepth 100000 in
set_option maxHeartbeats 2000000 in
theorem aty_zn (op : UInt8) (ka sa kb sb : Int) (w : World) (hV : scV op (max sa sb) (wrap64 (sa + sb)) sa = 0) (hk : scOk op = true) (hna : numB ⟨ka, sa⟩ = true) (hnb : numB ⟨kb, sb⟩ = true) (h47 : op ≠ 47) : Calls Tryz.prog 20 #[.int .u8 (op.toNat : Int), .agg #[.int .i64 ka, .int .i64 sa], .agg #[.int .i64 kb, .int .i64 sb]] w (AtyS w (some 0)) := by
  have HK := Lib.hid hk
  clear hk
  have HNA := Lib.hid hna
  clear hna
  have HNB := Lib.hid hnb
  clear hnb
  have e47 : ((op.toNat : Int) == 47) = false := by rw [show (47 : Int) = ((47 : Nat) : Int) from rfl, op_num op 47 (by decide)]; exact beq_eq_false_iff_ne.2 h47
  clear h47
  have hmm := @run_makeMap Tryz.prog
  obtain ⟨hA0, hB0, hS0⟩ := args3_at w ka sa kb sb
  obtain ⟨M, hM⟩ : ∃ M, max sa sb = M := ⟨_, rfl⟩
  obtain ⟨X, hX⟩ : ∃ X, wrap64 (sa + sb) = X := ⟨_, rfl⟩
  obtain ⟨wa, wb, wc, wd, ra, rb, rc, rd, rl, ba, bb, bc, bd⟩ := scales_map (args3 w ka sa kb sb) M X sa op
  rw [hS0] at ra rb rc rd rl
  have hlt := hS0
  obtain ⟨_, a1, _, a2, _, _, _⟩ := (hA0.later ba).cells
  obtain ⟨_, b1, _, b2, _, _, _⟩ := (hA0.later bb).cells
  obtain ⟨_, c1, _, c2, _, _, _⟩ := (hA0.later bc).cells
  have HA := Lib.hid (hA0.later bd)
  have CX := Lib.hid (hB0.trans (bd.mono hB0.size))
  have HM := Lib.hid hM
  have HX := Lib.hid hX
  rw [hM, hX] at hV
  rw [hV, HK.out] at rl
  unfold args3 at ra
  clear hA0 hB0 hS0 ba bb bc bd hV hlt
  obtain ⟨y0, y1, z0, z1, r0, r1, fr⟩ := HA.out.cells
  go_enter Tryz.func20, Tryz.ntmps20
  go_wp2_with fail
  refine (num_any _ _ _ _ HNA.out).mono ?_
  rintro e w5 ⟨rfl, c5⟩
  have HA := Lib.hid (HA.out.later c5)
  have CX := Lib.hid (CX.out.trans (c5.mono CX.out.size))
  clear c5 y0 y1 z0 z1 r0 r1 fr
  obtain ⟨y0, y1, z0, z1, r0, r1, fr⟩ := HA.out.cells
  go_wp2_with fail
  refine (num_any _ _ _ _ HNB.out).mono ?_
  rintro e w6 ⟨rfl, c6⟩
  have HA := Lib.hid (HA.out.later c6)
  have CX := Lib.hid (CX.out.trans (c6.mono CX.out.size))
  clear c6 y0 y1 z0 z1 r0 r1 fr
  obtain ⟨y0, y1, z0, z1, r0, r1, fr⟩ := HA.out.cells
  go_wp2_with fail
  exact bodyPost_ret (v := .tuple #[.agg #[.int .i64 1, .int .i64 0], .bool true]) (by simp [results, Tryz.results20, go_sem, r0, r1, fr]) rfl (aty_some CX.out rfl rfl _ _)
set_option maxRecDepth 100000 in
set_option maxHeartbeats 2000000 in
theorem aty_sn (op : UInt8) (ka sa kb sb : Int) (w : World) (V : Int) (hV : scV op (max sa sb) (wrap64 (sa + sb)) sa = V) (hk : scOk op = true) (hna : numB ⟨ka, sa⟩ = true) (hnb : numB ⟨kb, sb⟩ = true) (h9 : V ≤ 9) (hv0 : V ≠ 0) (h47 : op ≠ 47) : Calls Tryz.prog 20 #[.int .u8 (op.toNat : Int), .agg #[.int .i64 ka, .int .i64 sa], .agg #[.int .i64 kb, .int .i64 sb]] w (AtyS w (some V)) := by
  have HK := Lib.hid hk
  clear hk
  have HNA := Lib.hid hna
  clear hna
  have HNB := Lib.hid hnb
  clear hnb
  have e47 : ((op.toNat : Int) == 47) = false := by rw [show (47 : Int) = ((47 : Nat) : Int) from rfl, op_num op 47 (by decide)]; exact beq_eq_false_iff_ne.2 h47
  clear h47
  have d9 : decide (9 < V) = false := decide_eq_false (by omega)
  have ez : (V == 0) = false := beq_eq_false_iff_ne.2 hv0
  have HVN := Lib.hid hv0
  clear hv0
  have hmm := @run_makeMap Tryz.prog
  obtain ⟨hA0, hB0, hS0⟩ := args3_at w ka sa kb sb
  obtain ⟨M, hM⟩ : ∃ M, max sa sb = M := ⟨_, rfl⟩
  obtain ⟨X, hX⟩ : ∃ X, wrap64 (sa + sb) = X := ⟨_, rfl⟩
  obtain ⟨wa, wb, wc, wd, ra, rb, rc, rd, rl, ba, bb, bc, bd⟩ := scales_map (args3 w ka sa kb sb) M X sa op
  rw [hS0] at ra rb rc rd rl
  have hlt := hS0
  obtain ⟨_, a1, _, a2, _, _, _⟩ := (hA0.later ba).cells
  obtain ⟨_, b1, _, b2, _, _, _⟩ := (hA0.later bb).cells
  obtain ⟨_, c1, _, c2, _, _, _⟩ := (hA0.later bc).cells
  have HA := Lib.hid (hA0.later bd)
  have CX := Lib.hid (hB0.trans (bd.mono hB0.size))
  have HM := Lib.hid hM
  have HX := Lib.hid hX
  rw [hM, hX] at hV
  rw [hV, HK.out] at rl
  unfold args3 at ra
  clear hA0 hB0 hS0 ba bb bc bd hV hlt
  obtain ⟨y0, y1, z0, z1, r0, r1, fr⟩ := HA.out.cells
  go_enter Tryz.func20, Tryz.ntmps20
  go_wp2_with fail
  refine (num_any _ _ _ _ HNA.out).mono ?_
  rintro e w5 ⟨rfl, c5⟩
  have HA := Lib.hid (HA.out.later c5)
  have CX := Lib.hid (CX.out.trans (c5.mono CX.out.size))
  clear c5 y0 y1 z0 z1 r0 r1 fr
  obtain ⟨y0, y1, z0, z1, r0, r1, fr⟩ := HA.out.cells
  go_wp2_with fail
  refine (num_any _ _ _ _ HNB.out).mono ?_
  rintro e w6 ⟨rfl, c6⟩
  have HA := Lib.hid (HA.out.later c6)
  have CX := Lib.hid (CX.out.trans (c6.mono CX.out.size))
  clear c6 y0 y1 z0 z1 r0 r1 fr
  obtain ⟨y0, y1, z0, z1, r0, r1, fr⟩ := HA.out.cells
  go_wp2_with fail
  exact bodyPost_ret (v := .tuple #[.agg #[.int .i64 2, .int .i64 V], .bool true]) (by simp [results, Tryz.results20, go_sem, r0, r1, fr]) rfl (aty_some CX.out (typed_kind HVN.out) (typed_scale _) _ _)
theorem aty_any (op : UInt8) (ka sa kb sb : Int) (w : World) (o : Option Int) (ho : arithTy op ⟨ka, sa⟩ ⟨kb, sb⟩ = o) : Calls Tryz.prog 20 #[.int .u8 (op.toNat : Int), .agg #[.int .i64 ka, .int .i64 sa], .agg #[.int .i64 kb, .int .i64 sb]] w (AtyS w o) := by
  cases hk : scOk op with
  | false =>
    obtain rfl : o = none := by
      rw [← ho]
      simp only [scOk, Bool.or_eq_false_iff] at hk
      obtain ⟨⟨⟨h1, h2⟩, h3⟩, h4⟩ := hk
      unfold arithTy
      rw [h1, h2, h3, h4]
      simp
    exact aty_op op ka sa kb sb w _ rfl hk
  | true =>
    cases hna : numB ⟨ka, sa⟩ with
    | false =>
      obtain rfl : o = none := by rw [← ho]; unfold arithTy; rw [hna]; rfl
      exact aty_a op ka sa kb sb w _ rfl hk hna
    | true =>
      cases hnb : numB ⟨kb, sb⟩ with
      | false =>
        obtain rfl : o = none := by rw [← ho]; unfold arithTy; rw [hna, hnb]; rfl
        exact aty_b op ka sa kb sb w _ rfl hk hna hnb
      | true =>
        obtain ⟨a0, a9, _⟩ := num_range hna
        obtain ⟨b0, b9, _⟩ := num_range hnb
        change 0 ≤ sa at a0
        change sa ≤ 9 at a9
        change 0 ≤ sb at b0
        change sb ≤ 9 at b9
        have hx : wrap64 (sa + sb) = sa + sb := wrap_fits (fits_iff.2 (by unfold I64; omega))
        have key : ∀ V, scV op (max sa sb) (wrap64 (sa + sb)) sa = V → (V ≤ 9 → ¬ (op = 47 ∧ 0 < sb) → arithTy op ⟨ka, sa⟩ ⟨kb, sb⟩ = some V) ∧ (9 < V → arithTy op ⟨ka, sa⟩ ⟨kb, sb⟩ = none) ∧ (op = 47 → 0 < sb → arithTy op ⟨ka, sa⟩ ⟨kb, sb⟩ = none) := by
          intro V hV
          rw [hx] at hV
          unfold scV at hV
          unfold arithTy
          rw [hna, hnb]
          simp only [Bool.and_self, if_true]
          by_cases h1 : (op == 43 || op == 45) = true
          · rw [if_pos h1] at hV ⊢
            subst hV
            refine ⟨fun _ _ => rfl, fun h => by omega, fun h => by rw [h] at h1; exact absurd h1 (by decide)⟩
          · rw [if_neg h1] at hV ⊢
            by_cases h2 : (op == 42) = true
            · rw [if_pos h2] at hV ⊢
              subst hV
              refine ⟨fun h _ => if_pos h, fun h => if_neg (by omega), fun h => by rw [h] at h2; exact absurd h2 (by decide)⟩
            · rw [if_neg h2] at hV ⊢
              have h3 : op = 47 := by
                simp only [scOk, Bool.or_eq_true, beq_iff_eq] at hk h1 h2
                rcases hk with ((h | h) | h) | h
                · exact absurd (.inl h) h1
                · exact absurd (.inr h) h1
                · exact absurd h h2
                · exact h
              subst h3
              rw [if_pos (by decide)] at hV ⊢
              subst hV
              refine ⟨fun _ h => ?_, fun h => by omega, fun _ h => ?_⟩
              · have hb : sb = 0 := by
                  have : ¬ 0 < sb := fun h4 => h ⟨rfl, h4⟩
                  omega
                subst hb
                rfl
              · show (if (sb == 0) = true then some sa else none) = none
                rw [if_neg (by rw [beq_iff_eq]; omega)]
        obtain ⟨V, hV⟩ : ∃ V, scV op (max sa sb) (wrap64 (sa + sb)) sa = V := ⟨_, rfl⟩
        obtain ⟨k1, k2, k3⟩ := key V hV
        by_cases h9 : 9 < V
        · obtain rfl : o = none := by rw [← ho]; exact k2 h9
          exact aty_big op ka sa kb sb w V hV hk hna hnb h9
        · by_cases h47 : op = 47
          · by_cases hsb : 0 < sb
            · obtain rfl : o = none := by rw [← ho]; exact k3 h47 hsb
              exact aty_div op ka sa kb sb w V hV hk hna hnb (by omega) h47 hsb
            · obtain rfl : o = some V := by rw [← ho]; exact k1 (by omega) (fun h => hsb h.2)
              by_cases hv0 : V = 0
              · subst hv0
                exact aty_zy op ka sa kb sb w hV hk hna hnb h47 (by omega)
              · exact aty_sy op ka sa kb sb w V hV hk hna hnb (by omega) hv0 h47 (by omega)
          · obtain rfl : o = some V := by rw [← ho]; exact k1 (by omega) (fun h => h47 h.1)
            by_cases hv0 : V = 0
            · subst hv0
              exact aty_zn op ka sa kb sb w hV hk hna hnb h47
            · exact aty_sn op ka sa kb sb w V hV hk hna hnb (by omega) hv0 h47
end Go.Proofs.YtekpdcofjhdiiaaGreatDoor.Val
