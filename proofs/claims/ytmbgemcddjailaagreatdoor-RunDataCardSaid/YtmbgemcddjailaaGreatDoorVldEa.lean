/-
  VldM, VldN, VldO, VldOb, VldOc in one.
-/
import Derived.Test.YtmbgemcddjailaaGreatDoorVldDa
import Derived.Test.YtmbgemcddjailaaGreatDoorVldCa
import Derived.Deep.RegionHeld3
/- VldM: The arms of the checker's step, but the last. No condition beyond what each theorem names. -/
namespace Go.Proofs.YtmbgemcddjailaaGreatDoor.Vld
open Go.RowKit Go.Maps Go.Proofs.YtmbgemcddjailaaGreatDoor.Op Go.Proofs.YtmbgemcddjailaaGreatDoor.Mod
set_option linter.unusedVariables false
theorem Boxed.later {w W W2 : World} {op a b : Int} {lv : Value} (h : Boxed w W op a b lv) (hb : Below W.heap.size W W2) : Boxed w W2 op a b lv :=
  ⟨h.below.trans (hb.mono h.below.size), Nat.lt_of_lt_of_le h.size hb.size, cell_later hb h.q0, cell_later hb h.q1, cell_later hb h.q2, cell_later hb h.q3⟩
theorem callee_any (v : Vn) (n : Nat) (hn : n < 4294967296) (w : World) (B cb : Nat) (E : Ce) (x : Cx) (c : Ck) (k : Nat) (h : CkAt w B cb E x c k) (hf : FuncsAt w E.f v.m.funcs) (ht : TypesAt w E.t v.m.types) :
    Calls Tryz.prog 105 #[.pointer (some ⟨cb, 0, none⟩), .int .i64 (n : Int)] w fun e w' => e = .returned (.agg #[.string (calleeC v n c).2.params, .string (calleeC v n c).2.results]) ∧ Upd w B cb E x (calleeC v n c).1 k w' := by
  have out : calleeL v.m n = none → ∀ {Q : Ending → World → Prop}, Calls Tryz.prog 105 #[.pointer (some ⟨cb, 0, none⟩), .int .i64 (n : Int)] w (fun e w' => e = .returned (.agg #[.string ⟨#[]⟩, .string ⟨#[]⟩]) ∧ Upd w B cb E x (badC c) k w') → Calls Tryz.prog 105 #[.pointer (some ⟨cb, 0, none⟩), .int .i64 (n : Int)] w fun e w' => e = .returned (.agg #[.string (calleeC v n c).2.params, .string (calleeC v n c).2.results]) ∧ Upd w B cb E x (calleeC v n c).1 k w' := fun h1 _ h2 => by
    rw [calleeC_out h1]
    exact h2
  cases hg : v.m.funcs[n]? with
  | none => exact out (by unfold calleeL; rw [hg]) (Q := fun _ _ => True) (callee_out1 v n hn w B cb E x c k h hf ht (List.getElem?_eq_none_iff.1 hg))
  | some f =>
    by_cases h0 : f.ty < 0
    · exact out (by unfold calleeL; rw [hg]; show (if 0 ≤ f.ty then _ else none) = none; rw [if_neg (by omega)]) (Q := fun _ _ => True) (callee_out2 v n hn w B cb E x c k h hf ht f hg h0)
    · obtain ⟨i, hi⟩ : ∃ i : Nat, f.ty = (i : Int) := ⟨f.ty.toNat, by omega⟩
      have hcl : calleeL v.m n = v.m.types[i]? := by
        unfold calleeL
        rw [hg]
        show (if 0 ≤ f.ty then v.m.types[f.ty.toNat]? else none) = _
        rw [if_pos (by omega), hi, Int.toNat_natCast]
      cases ht2 : v.m.types[i]? with
      | none => exact out (hcl.trans ht2) (Q := fun _ _ => True) (callee_out3 v n hn w B cb E x c k h hf ht f hg (by omega) (by have := List.getElem?_eq_none_iff.1 ht2; omega))
      | some t =>
        rw [calleeC_in (hcl.trans ht2)]
        exact callee_in v n hn w B cb E x c k h hf ht f hg i hi t ht2
theorem calleeC_same (v : Vn) (n : Nat) (c : Ck) : (calleeC v n c).1.frames = c.frames ∧ (calleeC v n c).1.stack = c.stack := by
  unfold calleeC orBad
  split <;> exact ⟨rfl, rfl⟩
theorem localC_same (v : Vn) (n : Nat) (c : Ck) : (localC v n c).1.frames = c.frames ∧ (localC v n c).1.stack = c.stack := by
  unfold localC orBad
  split <;> exact ⟨rfl, rfl⟩
theorem globalC_same (v : Vn) (n : Nat) (s : Bool) (c : Ck) : (globalC v n s c).1.frames = c.frames ∧ (globalC v n s c).1.stack = c.stack := by
  unfold globalC
  split <;> exact ⟨rfl, rfl⟩
theorem Few.of {c c' : Ck} {l0 : List Fr} {f : Fr} (h : Few c l0 f) (hs : c'.frames = c.frames ∧ c'.stack = c.stack) : Few c' l0 f :=
  ⟨hs.1.trans h.frames, by rw [hs.2]; exact h.height, by rw [hs.2]; exact h.stack, by rw [hs.1]; exact h.many⟩
theorem localC_len (v : Vn) (n : Nat) (c : Ck) : (localC v n c).2.length ≤ 1 := by
  unfold localC orBad
  split
  · rename_i t ht
    rw [Option.map_eq_some_iff] at ht
    obtain ⟨b, _, rfl⟩ := ht
    exact Nat.le_refl _
  · exact Nat.zero_le _
theorem globalC_len (v : Vn) (n : Nat) (s : Bool) (c : Ck) : (globalC v n s c).2.length ≤ 1 := by
  unfold globalC
  split
  · exact Nat.zero_le _
  · exact Nat.le_refl _
theorem pop_frames {c : Ck} {l0 : List Fr} {f : Fr} (h : Few c l0 f) : Few (popC c).1 l0 f := h.less (.pop h.frames h.height)
set_option maxRecDepth 100000 in
set_option maxHeartbeats 4000000 in
theorem walk_26 (v : Vn) (a b : Int) (lv : Value) (w : World) (B cb : Nat) (E : Ce) (x : Cx) (c : Ck) (k : Nat) (l0 : List Fr) (f : Fr) (A : Ask w B cb E x c k v l0 f) (zs : List Int) :
    Calls Tryz.prog 74 #[.pointer (some ⟨cb, 0, none⟩), .agg #[.int .i64 26, .int .i64 a, .int .i64 b, lv]] w fun e w' => e = .returned (.tuple #[]) ∧ Upd w B cb E x (popC c).1 k w' := by
  have HF := Lib.hid A.few
  have HV := Lib.hid A.locals
  have HLS := Lib.hid A.lsize
  have H := Lib.hid A.here
  have HX := Lib.hid (foot_new A.here)
  have hB := A.low
  have HCT := Lib.hid (fun (W : World) => control_nope ⟨26, a, b, zs⟩ lv W cb (v := v) (c := c) (control_none (show (16 : Int) ≤ 26 by decide) c))
  clear A
  go_enter Tryz.func74, Tryz.ntmps74
  go_wp2_with fail
  obtain ⟨W0, hW0⟩ : ∃ W0, w.alloc (.cells #[.int .i64 26, .int .i64 a, .int .i64 b, lv] 29) = W0 := ⟨_, rfl⟩
  rw [hW0]
  have bx0 := boxed_ins hW0
  clear hW0
  refine (HCT.out W0).mono ?_
  rintro e W1 ⟨rfl, b1⟩
  have BX := Lib.hid (bx0.later b1)
  clear bx0 b1
  obtain ⟨q0, q1, q2, q3⟩ : _ ∧ _ ∧ _ ∧ _ := ⟨BX.out.q0, BX.out.q1, BX.out.q2, BX.out.q3⟩
  have C1 := Lib.hid (Chain.start (H.out.later BX.out.below) (Below.refl _ _))
  have HB1 := Lib.hid (show Below B w W1 from BX.out.below.mono hB)
  go_wp2_with fail
  refine (pop_any _ B cb E _ _ k C1.out.here l0 f HF.out.frames HF.out.height HF.out.stack HF.out.many).mono ?_
  rintro e W2 ⟨rfl, u2⟩
  obtain ⟨x2, ch2⟩ := C1.out.next u2
  have C2 := Lib.hid ch2
  obtain ⟨q0, q1, q2, q3⟩ := BX.out.chain HX.out ch2
  clear u2 ch2
  go_wp2_with fail
  go_end0
  exact ⟨rfl, C2.out.upd.after BX.out.below⟩
set_option maxRecDepth 100000 in
set_option maxHeartbeats 4000000 in
theorem walk_32 (v : Vn) (n : Nat) (hn : n < 4294967296) (a b : Int) (lv : Value) (w : World) (B cb : Nat) (E : Ce) (x : Cx) (c : Ck) (k : Nat) (l0 : List Fr) (f : Fr) (A : Ask w B cb E x c k v l0 f) (zs : List Int) :
    Calls Tryz.prog 74 #[.pointer (some ⟨cb, 0, none⟩), .agg #[.int .i64 32, .int .i64 (n : Int), .int .i64 b, lv]] w fun e w' => e = .returned (.tuple #[]) ∧ Upd w B cb E x (putC (localC v n c).2 (localC v n c).1) k w' := by
  have HF := Lib.hid A.few
  have HV := Lib.hid A.locals
  have HLS := Lib.hid A.lsize
  have H := Lib.hid A.here
  have HX := Lib.hid (foot_new A.here)
  have hB := A.low
  have HCT := Lib.hid (fun (W : World) => control_nope ⟨32, (n : Int), b, zs⟩ lv W cb (v := v) (c := c) (control_none (show (16 : Int) ≤ 32 by decide) c))
  clear A
  go_enter Tryz.func74, Tryz.ntmps74
  go_wp2_with fail
  obtain ⟨W0, hW0⟩ : ∃ W0, w.alloc (.cells #[.int .i64 32, .int .i64 (n : Int), .int .i64 b, lv] 29) = W0 := ⟨_, rfl⟩
  rw [hW0]
  have bx0 := boxed_ins hW0
  clear hW0
  refine (HCT.out W0).mono ?_
  rintro e W1 ⟨rfl, b1⟩
  have BX := Lib.hid (bx0.later b1)
  clear bx0 b1
  obtain ⟨q0, q1, q2, q3⟩ : _ ∧ _ ∧ _ ∧ _ := ⟨BX.out.q0, BX.out.q1, BX.out.q2, BX.out.q3⟩
  have C1 := Lib.hid (Chain.start (H.out.later BX.out.below) (Below.refl _ _))
  have HB1 := Lib.hid (show Below B w W1 from BX.out.below.mono hB)
  go_wp2_with fail
  refine (local_any v n hn _ B cb E _ _ k C1.out.here HV.out HLS.out).mono ?_
  rintro e W2 ⟨rfl, u2⟩
  obtain ⟨x2, ch2⟩ := C1.out.next u2
  have C2 := Lib.hid ch2
  obtain ⟨q0, q1, q2, q3⟩ := BX.out.chain HX.out ch2
  clear u2 ch2
  have F2 := Lib.hid (HF.out.of (localC_same v n c))
  have L2 := Lib.hid (localC_len v n c)
  go_wp2_with fail
  refine (put_l (localC v n c).2 (by have := L2.out; omega) _ B cb E _ _ k C2.out.here (C2.out.size (Nat.le_trans hB (Nat.le_of_lt BX.out.size))) F2.out.stack).mono ?_
  rintro e W3 ⟨rfl, u3⟩
  obtain ⟨x3, ch3⟩ := C2.out.next u3
  have C3 := Lib.hid ch3
  obtain ⟨q0, q1, q2, q3⟩ := BX.out.chain HX.out ch3
  clear u3 ch3
  go_wp2_with fail
  go_end0
  exact ⟨rfl, C3.out.upd.after BX.out.below⟩
set_option maxRecDepth 100000 in
set_option maxHeartbeats 4000000 in
theorem walk_33 (v : Vn) (n : Nat) (hn : n < 4294967296) (a b : Int) (lv : Value) (w : World) (B cb : Nat) (E : Ce) (x : Cx) (c : Ck) (k : Nat) (l0 : List Fr) (f : Fr) (A : Ask w B cb E x c k v l0 f) (zs : List Int) :
    Calls Tryz.prog 74 #[.pointer (some ⟨cb, 0, none⟩), .agg #[.int .i64 33, .int .i64 (n : Int), .int .i64 b, lv]] w fun e w' => e = .returned (.tuple #[]) ∧ Upd w B cb E x (takeC (localC v n c).2 (localC v n c).1) k w' := by
  have HF := Lib.hid A.few
  have HV := Lib.hid A.locals
  have HLS := Lib.hid A.lsize
  have H := Lib.hid A.here
  have HX := Lib.hid (foot_new A.here)
  have hB := A.low
  have HCT := Lib.hid (fun (W : World) => control_nope ⟨33, (n : Int), b, zs⟩ lv W cb (v := v) (c := c) (control_none (show (16 : Int) ≤ 33 by decide) c))
  clear A
  go_enter Tryz.func74, Tryz.ntmps74
  go_wp2_with fail
  obtain ⟨W0, hW0⟩ : ∃ W0, w.alloc (.cells #[.int .i64 33, .int .i64 (n : Int), .int .i64 b, lv] 29) = W0 := ⟨_, rfl⟩
  rw [hW0]
  have bx0 := boxed_ins hW0
  clear hW0
  refine (HCT.out W0).mono ?_
  rintro e W1 ⟨rfl, b1⟩
  have BX := Lib.hid (bx0.later b1)
  clear bx0 b1
  obtain ⟨q0, q1, q2, q3⟩ : _ ∧ _ ∧ _ ∧ _ := ⟨BX.out.q0, BX.out.q1, BX.out.q2, BX.out.q3⟩
  have C1 := Lib.hid (Chain.start (H.out.later BX.out.below) (Below.refl _ _))
  have HB1 := Lib.hid (show Below B w W1 from BX.out.below.mono hB)
  go_wp2_with fail
  refine (local_any v n hn _ B cb E _ _ k C1.out.here HV.out HLS.out).mono ?_
  rintro e W2 ⟨rfl, u2⟩
  obtain ⟨x2, ch2⟩ := C1.out.next u2
  have C2 := Lib.hid ch2
  obtain ⟨q0, q1, q2, q3⟩ := BX.out.chain HX.out ch2
  clear u2 ch2
  have F2 := Lib.hid (HF.out.of (localC_same v n c))
  have L2 := Lib.hid (localC_len v n c)
  go_wp2_with fail
  refine (take_l (localC v n c).2 (by have := L2.out; omega) _ B cb E _ _ k C2.out.here l0 f F2.out).mono ?_
  rintro e W3 ⟨rfl, u3⟩
  obtain ⟨x3, ch3⟩ := C2.out.next u3
  have C3 := Lib.hid ch3
  obtain ⟨q0, q1, q2, q3⟩ := BX.out.chain HX.out ch3
  clear u3 ch3
  go_wp2_with fail
  go_end0
  exact ⟨rfl, C3.out.upd.after BX.out.below⟩
set_option maxRecDepth 100000 in
set_option maxHeartbeats 4000000 in
theorem walk_34 (v : Vn) (n : Nat) (hn : n < 4294967296) (a b : Int) (lv : Value) (w : World) (B cb : Nat) (E : Ce) (x : Cx) (c : Ck) (k : Nat) (l0 : List Fr) (f : Fr) (A : Ask w B cb E x c k v l0 f) (zs : List Int) :
    Calls Tryz.prog 74 #[.pointer (some ⟨cb, 0, none⟩), .agg #[.int .i64 34, .int .i64 (n : Int), .int .i64 b, lv]] w fun e w' => e = .returned (.tuple #[]) ∧ Upd w B cb E x (putC (localC v n c).2 (takeC (localC v n c).2 (localC v n c).1)) k w' := by
  have HF := Lib.hid A.few
  have HV := Lib.hid A.locals
  have HLS := Lib.hid A.lsize
  have H := Lib.hid A.here
  have HX := Lib.hid (foot_new A.here)
  have hB := A.low
  have HCT := Lib.hid (fun (W : World) => control_nope ⟨34, (n : Int), b, zs⟩ lv W cb (v := v) (c := c) (control_none (show (16 : Int) ≤ 34 by decide) c))
  clear A
  go_enter Tryz.func74, Tryz.ntmps74
  go_wp2_with fail
  obtain ⟨W0, hW0⟩ : ∃ W0, w.alloc (.cells #[.int .i64 34, .int .i64 (n : Int), .int .i64 b, lv] 29) = W0 := ⟨_, rfl⟩
  rw [hW0]
  have bx0 := boxed_ins hW0
  clear hW0
  refine (HCT.out W0).mono ?_
  rintro e W1 ⟨rfl, b1⟩
  have BX := Lib.hid (bx0.later b1)
  clear bx0 b1
  obtain ⟨q0, q1, q2, q3⟩ : _ ∧ _ ∧ _ ∧ _ := ⟨BX.out.q0, BX.out.q1, BX.out.q2, BX.out.q3⟩
  have C1 := Lib.hid (Chain.start (H.out.later BX.out.below) (Below.refl _ _))
  have HB1 := Lib.hid (show Below B w W1 from BX.out.below.mono hB)
  go_wp2_with fail
  refine (local_any v n hn _ B cb E _ _ k C1.out.here HV.out HLS.out).mono ?_
  rintro e W2 ⟨rfl, u2⟩
  obtain ⟨x2, ch2⟩ := C1.out.next u2
  have C2 := Lib.hid ch2
  obtain ⟨q0, q1, q2, q3⟩ := BX.out.chain HX.out ch2
  clear u2 ch2
  have F2 := Lib.hid (HF.out.of (localC_same v n c))
  have L2 := Lib.hid (localC_len v n c)
  go_wp2_with fail
  refine (take_l (localC v n c).2 (by have := L2.out; omega) _ B cb E _ _ k C2.out.here l0 f F2.out).mono ?_
  rintro e W3 ⟨rfl, u3⟩
  obtain ⟨x3, ch3⟩ := C2.out.next u3
  have C3 := Lib.hid ch3
  obtain ⟨q0, q1, q2, q3⟩ := BX.out.chain HX.out ch3
  clear u3 ch3
  have F3 := Lib.hid (F2.out.take (localC v n c).2)
  go_wp2_with fail
  refine (put_l (localC v n c).2 (by have := L2.out; omega) _ B cb E _ _ k C3.out.here (C3.out.size (Nat.le_trans hB (Nat.le_of_lt BX.out.size))) F3.out.stack).mono ?_
  rintro e W4 ⟨rfl, u4⟩
  obtain ⟨x4, ch4⟩ := C3.out.next u4
  have C4 := Lib.hid ch4
  obtain ⟨q0, q1, q2, q3⟩ := BX.out.chain HX.out ch4
  clear u4 ch4
  go_wp2_with fail
  go_end0
  exact ⟨rfl, C4.out.upd.after BX.out.below⟩
set_option maxRecDepth 100000 in
set_option maxHeartbeats 4000000 in
theorem walk_35 (v : Vn) (n : Nat) (hn : n < 4294967296) (a b : Int) (lv : Value) (w : World) (B cb : Nat) (E : Ce) (x : Cx) (c : Ck) (k : Nat) (l0 : List Fr) (f : Fr) (A : Ask w B cb E x c k v l0 f) (zs : List Int) (hg : ∀ W, Below B w W → GlobsAt W E.g v.m.globals) :
    Calls Tryz.prog 74 #[.pointer (some ⟨cb, 0, none⟩), .agg #[.int .i64 35, .int .i64 (n : Int), .int .i64 b, lv]] w fun e w' => e = .returned (.tuple #[]) ∧ Upd w B cb E x (putC (globalC v n false c).2 (globalC v n false c).1) k w' := by
  have HG := Lib.hid hg
  clear hg
  have HF := Lib.hid A.few
  have HV := Lib.hid A.locals
  have HLS := Lib.hid A.lsize
  have H := Lib.hid A.here
  have HX := Lib.hid (foot_new A.here)
  have hB := A.low
  have HCT := Lib.hid (fun (W : World) => control_nope ⟨35, (n : Int), b, zs⟩ lv W cb (v := v) (c := c) (control_none (show (16 : Int) ≤ 35 by decide) c))
  clear A
  go_enter Tryz.func74, Tryz.ntmps74
  go_wp2_with fail
  obtain ⟨W0, hW0⟩ : ∃ W0, w.alloc (.cells #[.int .i64 35, .int .i64 (n : Int), .int .i64 b, lv] 29) = W0 := ⟨_, rfl⟩
  rw [hW0]
  have bx0 := boxed_ins hW0
  clear hW0
  refine (HCT.out W0).mono ?_
  rintro e W1 ⟨rfl, b1⟩
  have BX := Lib.hid (bx0.later b1)
  clear bx0 b1
  obtain ⟨q0, q1, q2, q3⟩ : _ ∧ _ ∧ _ ∧ _ := ⟨BX.out.q0, BX.out.q1, BX.out.q2, BX.out.q3⟩
  have C1 := Lib.hid (Chain.start (H.out.later BX.out.below) (Below.refl _ _))
  have HB1 := Lib.hid (show Below B w W1 from BX.out.below.mono hB)
  go_wp2_with fail
  refine (global_any v n hn false _ B cb E _ _ k C1.out.here (HG.out _ HB1.out)).mono ?_
  rintro e W2 ⟨rfl, u2⟩
  obtain ⟨x2, ch2⟩ := C1.out.next u2
  have C2 := Lib.hid ch2
  obtain ⟨q0, q1, q2, q3⟩ := BX.out.chain HX.out ch2
  clear u2 ch2
  have F2 := Lib.hid (HF.out.of (globalC_same v n false c))
  have L2 := Lib.hid (globalC_len v n false c)
  go_wp2_with fail
  refine (put_l (globalC v n false c).2 (by have := L2.out; omega) _ B cb E _ _ k C2.out.here (C2.out.size (Nat.le_trans hB (Nat.le_of_lt BX.out.size))) F2.out.stack).mono ?_
  rintro e W3 ⟨rfl, u3⟩
  obtain ⟨x3, ch3⟩ := C2.out.next u3
  have C3 := Lib.hid ch3
  obtain ⟨q0, q1, q2, q3⟩ := BX.out.chain HX.out ch3
  clear u3 ch3
  go_wp2_with fail
  go_end0
  exact ⟨rfl, C3.out.upd.after BX.out.below⟩
set_option maxRecDepth 100000 in
set_option maxHeartbeats 4000000 in
theorem walk_36 (v : Vn) (n : Nat) (hn : n < 4294967296) (a b : Int) (lv : Value) (w : World) (B cb : Nat) (E : Ce) (x : Cx) (c : Ck) (k : Nat) (l0 : List Fr) (f : Fr) (A : Ask w B cb E x c k v l0 f) (zs : List Int) (hg : ∀ W, Below B w W → GlobsAt W E.g v.m.globals) :
    Calls Tryz.prog 74 #[.pointer (some ⟨cb, 0, none⟩), .agg #[.int .i64 36, .int .i64 (n : Int), .int .i64 b, lv]] w fun e w' => e = .returned (.tuple #[]) ∧ Upd w B cb E x (takeC (globalC v n true c).2 (globalC v n true c).1) k w' := by
  have HG := Lib.hid hg
  clear hg
  have HF := Lib.hid A.few
  have HV := Lib.hid A.locals
  have HLS := Lib.hid A.lsize
  have H := Lib.hid A.here
  have HX := Lib.hid (foot_new A.here)
  have hB := A.low
  have HCT := Lib.hid (fun (W : World) => control_nope ⟨36, (n : Int), b, zs⟩ lv W cb (v := v) (c := c) (control_none (show (16 : Int) ≤ 36 by decide) c))
  clear A
  go_enter Tryz.func74, Tryz.ntmps74
  go_wp2_with fail
  obtain ⟨W0, hW0⟩ : ∃ W0, w.alloc (.cells #[.int .i64 36, .int .i64 (n : Int), .int .i64 b, lv] 29) = W0 := ⟨_, rfl⟩
  rw [hW0]
  have bx0 := boxed_ins hW0
  clear hW0
  refine (HCT.out W0).mono ?_
  rintro e W1 ⟨rfl, b1⟩
  have BX := Lib.hid (bx0.later b1)
  clear bx0 b1
  obtain ⟨q0, q1, q2, q3⟩ : _ ∧ _ ∧ _ ∧ _ := ⟨BX.out.q0, BX.out.q1, BX.out.q2, BX.out.q3⟩
  have C1 := Lib.hid (Chain.start (H.out.later BX.out.below) (Below.refl _ _))
  have HB1 := Lib.hid (show Below B w W1 from BX.out.below.mono hB)
  go_wp2_with fail
  refine (global_any v n hn true _ B cb E _ _ k C1.out.here (HG.out _ HB1.out)).mono ?_
  rintro e W2 ⟨rfl, u2⟩
  obtain ⟨x2, ch2⟩ := C1.out.next u2
  have C2 := Lib.hid ch2
  obtain ⟨q0, q1, q2, q3⟩ := BX.out.chain HX.out ch2
  clear u2 ch2
  have F2 := Lib.hid (HF.out.of (globalC_same v n true c))
  have L2 := Lib.hid (globalC_len v n true c)
  go_wp2_with fail
  refine (take_l (globalC v n true c).2 (by have := L2.out; omega) _ B cb E _ _ k C2.out.here l0 f F2.out).mono ?_
  rintro e W3 ⟨rfl, u3⟩
  obtain ⟨x3, ch3⟩ := C2.out.next u3
  have C3 := Lib.hid ch3
  obtain ⟨q0, q1, q2, q3⟩ := BX.out.chain HX.out ch3
  clear u3 ch3
  go_wp2_with fail
  go_end0
  exact ⟨rfl, C3.out.upd.after BX.out.below⟩
set_option maxRecDepth 100000 in
set_option maxHeartbeats 4000000 in
theorem walk_16 (v : Vn) (n : Nat) (hn : n < 4294967296) (a b : Int) (lv : Value) (w : World) (B cb : Nat) (E : Ce) (x : Cx) (c : Ck) (k : Nat) (l0 : List Fr) (f : Fr) (A : Ask w B cb E x c k v l0 f) (zs : List Int) (hfu : ∀ W, Below B w W → FuncsAt W E.f v.m.funcs) (hty : ∀ W, Below B w W → TypesAt W E.t v.m.types) (hsz : ∀ t ∈ v.m.types, t.params.size ≤ 1000000 ∧ t.results.size ≤ 1000000) :
    Calls Tryz.prog 74 #[.pointer (some ⟨cb, 0, none⟩), .agg #[.int .i64 16, .int .i64 (n : Int), .int .i64 b, lv]] w fun e w' => e = .returned (.tuple #[]) ∧ Upd w B cb E x (putC (calleeC v n c).2.results.data.toList (takeC (calleeC v n c).2.params.data.toList (calleeC v n c).1)) k w' := by
  have HFU := Lib.hid hfu
  have HTY := Lib.hid hty
  obtain ⟨P, R, hP, hR, hCC⟩ : ∃ P R, (calleeC v n c).2.params = P ∧ (calleeC v n c).2.results = R ∧ P.size ≤ 1000000 ∧ R.size ≤ 1000000 := by
    refine ⟨_, _, rfl, rfl, ?_⟩
    unfold calleeC orBad
    split
    · rename_i t ht
      have hm : t ∈ v.m.types := by
        unfold calleeL at ht
        split at ht
        · cases ht
        · split at ht
          · exact List.mem_of_getElem? ht
          · cases ht
      exact hsz t hm
    · exact ⟨Nat.zero_le _, Nat.zero_le _⟩
  have F2 := Lib.hid (A.few.of (calleeC_same v n c))
  have HCC := Lib.hid (fun (W : World) (x1 : Cx) (h : CkAt W B cb E x1 c k) (hb : Below B w W) => callee_any v n hn W B cb E x1 c k h (hfu W hb) (hty W hb))
  rw [hP, hR] at HCC ⊢
  obtain ⟨c2, hc2⟩ : ∃ c2, (calleeC v n c).1 = c2 := ⟨_, rfl⟩
  rw [hc2] at F2 HCC ⊢
  clear hfu hty hsz hP hR hc2
  have HF := Lib.hid A.few
  have HV := Lib.hid A.locals
  have HLS := Lib.hid A.lsize
  have H := Lib.hid A.here
  have HX := Lib.hid (foot_new A.here)
  have hB := A.low
  have HCT := Lib.hid (fun (W : World) => control_nope ⟨16, (n : Int), b, zs⟩ lv W cb (v := v) (c := c) (control_none (show (16 : Int) ≤ 16 by decide) c))
  clear A
  go_enter Tryz.func74, Tryz.ntmps74
  go_wp2_with fail
  obtain ⟨W0, hW0⟩ : ∃ W0, w.alloc (.cells #[.int .i64 16, .int .i64 (n : Int), .int .i64 b, lv] 29) = W0 := ⟨_, rfl⟩
  rw [hW0]
  have bx0 := boxed_ins hW0
  clear hW0
  refine (HCT.out W0).mono ?_
  rintro e W1 ⟨rfl, b1⟩
  have BX := Lib.hid (bx0.later b1)
  clear bx0 b1
  obtain ⟨q0, q1, q2, q3⟩ : _ ∧ _ ∧ _ ∧ _ := ⟨BX.out.q0, BX.out.q1, BX.out.q2, BX.out.q3⟩
  have C1 := Lib.hid (Chain.start (H.out.later BX.out.below) (Below.refl _ _))
  have HB1 := Lib.hid (show Below B w W1 from BX.out.below.mono hB)
  go_wp2_with fail
  refine (HCC.out _ _ C1.out.here HB1.out).mono ?_
  rintro e W2 ⟨rfl, u2⟩
  obtain ⟨x2, ch2⟩ := C1.out.next u2
  have C2 := Lib.hid ch2
  obtain ⟨q0, q1, q2, q3⟩ := BX.out.chain HX.out ch2
  clear u2 ch2
  have HX2 := Lib.hid (foot_new C2.out.here)
  obtain ⟨W3, hW3⟩ : ∃ W3, W2.alloc (.cells #[.string P, .string R] 25) = W3 := ⟨_, rfl⟩
  have b3 : Below W2.heap.size W2 W3 := by rw [← hW3]; exact (Below.refl _ _).alloc (Nat.le_refl _) _
  have D3 := Lib.hid (Chain.start (C2.out.here.later b3) (Below.refl _ _))
  have p0 : W3.cell? ⟨W2.heap.size, 0, none⟩ = some (.string P) := by rw [← hW3]; exact World.cell?_alloc_at _ _ _ _ rfl
  have p1 : W3.cell? ⟨W2.heap.size, 1, none⟩ = some (.string R) := by rw [← hW3]; exact World.cell?_alloc_at _ _ _ _ rfl
  have P1 := Lib.hid p1
  have B3 := Lib.hid b3
  clear b3
  go_wp2_with fail
  clear hW3
  refine (take_any P _ B cb E _ _ k D3.out.here l0 f F2.out.frames F2.out.height F2.out.stack F2.out.many (by omega)).mono ?_
  rintro e W4 ⟨rfl, u4⟩
  obtain ⟨x4, ch4⟩ := D3.out.next u4
  have D4 := Lib.hid ch4
  have p1 := ch4.cell P1.out HX2.out
  have F4 := Lib.hid (F2.out.take P.data.toList)
  clear u4 ch4 p0
  go_wp2_with fail
  refine (put_any R _ B cb E _ _ k D4.out.here (D4.out.size (Nat.le_trans (C2.out.size (Nat.le_trans hB (Nat.le_of_lt BX.out.size))) B3.out.size)) F4.out.stack hCC.2).mono ?_
  rintro e W5 ⟨rfl, u5⟩
  obtain ⟨x5, ch5⟩ := D4.out.next u5
  obtain ⟨x6, ch6⟩ := C2.out.next (ch5.upd.after B3.out)
  have C6 := Lib.hid ch6
  clear u5 ch5 ch6 p1
  go_wp2_with fail
  go_end0
  exact ⟨rfl, C6.out.upd.after BX.out.below⟩
theorem max_byte (a b : UInt8) : max (a.toNat : Int) (b.toNat : Int) = (((if a ≤ b then b else a).toNat : Nat) : Int) := by
  by_cases h : a ≤ b
  · rw [if_pos h]
    have : a.toNat ≤ b.toNat := h
    omega
  · rw [if_neg h]
    have : ¬ a.toNat ≤ b.toNat := h
    omega
def selC (c : Ck) : Ck :=
  let a := popC (takeC [127] c)
  let b := popC a.1
  let c2 := wantC b.1 (a.2 == b.2 || (a.2 == 0 || b.2 == 0))
  putC [if a.2 ≤ b.2 then b.2 else a.2] c2
set_option maxRecDepth 100000 in
set_option maxHeartbeats 4000000 in
theorem walk_27 (v : Vn) (a b : Int) (lv : Value) (w : World) (B cb : Nat) (E : Ce) (x : Cx) (c : Ck) (k : Nat) (l0 : List Fr) (f : Fr) (A : Ask w B cb E x c k v l0 f) (zs : List Int) :
    Calls Tryz.prog 74 #[.pointer (some ⟨cb, 0, none⟩), .agg #[.int .i64 27, .int .i64 a, .int .i64 b, lv]] w fun e w' => e = .returned (.tuple #[]) ∧ Upd w B cb E x (selC c) k w' := by
  obtain ⟨i0, hi, hz0, hz1, hz2⟩ := info_of info_u8
  unfold selC
  have F1 := A.few.take [127]
  obtain ⟨c1, hc1⟩ : ∃ c1, takeC [127] c = c1 := ⟨_, rfl⟩
  rw [hc1] at F1 ⊢
  have F2 := pop_frames F1
  obtain ⟨⟨c2, ta⟩, hp1⟩ : ∃ r, popC c1 = r := ⟨_, rfl⟩
  rw [hp1] at F2 ⊢
  dsimp only at F2 ⊢
  have F3 := pop_frames F2
  obtain ⟨⟨c3, tb⟩, hp2⟩ : ∃ r, popC c2 = r := ⟨_, rfl⟩
  rw [hp2] at F3 ⊢
  dsimp only at F3 ⊢
  obtain ⟨ok, hok⟩ : ∃ ok, (ta == tb || (ta == 0 || tb == 0)) = ok := ⟨_, rfl⟩
  rw [hok]
  have G1 := Lib.hid F1
  have G2 := Lib.hid F2
  have G3 := Lib.hid F3
  have HC1 := Lib.hid hc1
  have HP1 := Lib.hid hp1
  have HP2 := Lib.hid hp2
  have HOK := Lib.hid hok
  obtain ⟨tm, htm⟩ : ∃ tm, (if ta ≤ tb then tb else ta) = tm := ⟨_, rfl⟩
  have hmax := max_byte ta tb
  rw [htm] at hmax ⊢
  have e1 : (((ta.toNat : Nat) : Int) == ((tb.toNat : Nat) : Int)) = (ta == tb) := byte_eq ta tb
  have e2 : (((ta.toNat : Nat) : Int) == 0) = (ta == 0) := byte_eq ta 0
  have e3 : (((tb.toNat : Nat) : Int) == 0) = (tb == 0) := byte_eq tb 0
  clear F1 F2 F3 hc1 hp1 hp2 hok htm
  have HF := Lib.hid A.few
  have HV := Lib.hid A.locals
  have HLS := Lib.hid A.lsize
  have H := Lib.hid A.here
  have HX := Lib.hid (foot_new A.here)
  have hB := A.low
  have HCT := Lib.hid (fun (W : World) => control_nope ⟨27, a, b, zs⟩ lv W cb (v := v) (c := c) (control_none (show (16 : Int) ≤ 27 by decide) c))
  clear A
  go_enter Tryz.func74, Tryz.ntmps74
  go_wp2_with fail
  obtain ⟨W0, hW0⟩ : ∃ W0, w.alloc (.cells #[.int .i64 27, .int .i64 a, .int .i64 b, lv] 29) = W0 := ⟨_, rfl⟩
  rw [hW0]
  have bx0 := boxed_ins hW0
  clear hW0
  refine (HCT.out W0).mono ?_
  rintro e W1 ⟨rfl, b1⟩
  have BX := Lib.hid (bx0.later b1)
  clear bx0 b1
  obtain ⟨q0, q1, q2, q3⟩ : _ ∧ _ ∧ _ ∧ _ := ⟨BX.out.q0, BX.out.q1, BX.out.q2, BX.out.q3⟩
  have C1 := Lib.hid (Chain.start (H.out.later BX.out.below) (Below.refl _ _))
  have HB1 := Lib.hid (show Below B w W1 from BX.out.below.mono hB)
  go_wp2_with fail
  refine (take_l [127] (by decide) _ B cb E _ _ k C1.out.here l0 f HF.out).mono ?_
  rintro e W2 ⟨rfl, u2⟩
  obtain ⟨x2, ch2⟩ := C1.out.next u2
  have C2 := Lib.hid ch2
  obtain ⟨q0, q1, q2, q3⟩ := BX.out.chain HX.out ch2
  clear u2 ch2
  rw [HC1.out] at C2
  go_wp2_with fail
  refine (pop_any _ B cb E _ _ k C2.out.here l0 f G1.out.frames G1.out.height G1.out.stack G1.out.many).mono ?_
  rintro e W3 ⟨rfl, u3⟩
  rw [HP1.out] at u3 ⊢
  dsimp only at u3 ⊢
  obtain ⟨x3, ch3⟩ := C2.out.next u3
  have C3 := Lib.hid ch3
  clear u3 ch3
  go_wp2_with fail
  refine (pop_any _ B cb E _ _ k C3.out.here l0 f G2.out.frames G2.out.height G2.out.stack G2.out.many).mono ?_
  rintro e W4 ⟨rfl, u4⟩
  rw [HP2.out] at u4 ⊢
  dsimp only at u4 ⊢
  obtain ⟨x4, ch4⟩ := C3.out.next u4
  have C4 := Lib.hid ch4
  clear u4 ch4
  have tail : ∀ W5 : World, Upd W4 B cb E x4 (wantC c3 ok) k W5 → ∃ x5, Chain W1 B cb E x k W5 x5 (wantC c3 ok) := fun W5 u5 => C4.out.next u5
  have TAIL := Lib.hid tail
  clear tail
  rcases hab : (ta == tb) with _ | _
  · rcases h0a : (ta == 0) with _ | _
    · obtain ⟨z, hz⟩ : ∃ z, (tb == 0) = z := ⟨_, rfl⟩
      rw [hz] at e3
      have hoz : z = ok := by have := HOK.out; rw [hab, h0a, hz] at this; simpa using this
      subst hoz
      rw [hab] at e1
      rw [h0a] at e2
      clear hab h0a hz
      go_wp2_with fail
      refine (want_any z W4 B cb E _ _ k C4.out.here).mono ?_
      rintro e W5 ⟨rfl, u5⟩
      obtain ⟨x5, ch5⟩ := TAIL.out W5 u5
      have C5 := Lib.hid ch5
      obtain ⟨sv5, fv5⟩ := x5
      obtain ⟨c10, _, _⟩ := ch5.here.cells
      have hbl := ch5.here.lt
      have C10 := Lib.hid c10
      have HBS := Lib.hid (C5.out.size (Nat.le_trans hB (Nat.le_of_lt BX.out.size)))
      have HC4 := Lib.hid (show (wantC c3 z).stack.length + 1 ≤ maxLen by have : c3.stack.length < 3000000000000 := G3.out.stack; show c3.stack.length + 1 ≤ _; unfold maxLen; omega)
      have HC5 := Lib.hid (show ((wantC c3 z).stack.length + 1) * 1 ≤ 140737488355328 by have : c3.stack.length < 3000000000000 := G3.out.stack; show (c3.stack.length + 1) * 1 ≤ _; omega)
      have HC6 := Lib.hid (show B ≤ (W5.alloc (.cells #[.int .u8 (tm.toNat : Int)] 5)).heap.size by have := HBS.out; simp; omega)
      have HN := Lib.hid (news_at W5 #[.int .u8 (tm.toNat : Int)] 5 [.int .u8 (tm.toNat : Int)] rfl)
      clear u5 ch5
      go_wp2_with (at_builtin; refine wpList_append_own2 _ rfl _ _ 83 rfl B 5 i0 (.int .u8 0) 1 1 Tryz.underlying83 hi hz0 hz1 hz2 rfl (by decide) _ _ _ rfl (C5.out.here.stk.alloc _) ⟨W5.heap.size, 0, none⟩ 1 1 [.int .u8 (tm.toNat : Int)] rfl rfl HN.out (by intro u hu; rw [List.mem_singleton.1 hu]; rfl) (by decide) HC4.out HC5.out HC6.out ?_)
      intro v' w1 hown hgrow hnb
      obtain ⟨g', cap', rfl⟩ := Go.Joins.ownsRow_form hown (by omega)
      have hne : sv5.ownBlock ≠ some cb := fun e => (C5.out.here.rest.2.1 cb e).1 rfl
      have hbx : w1.heap[cb]? = W5.heap[cb]? := (grown_alloc hgrow).block cb C5.out.here.lt (Ne.symm hne)
      have fz1 : w1.frozen? ⟨cb, 10, none⟩ = false := (World.frozen?_of_block (a := ⟨cb, 10, none⟩) hbx).trans (C5.out.here.frozen 10)
      have cz : w1.cell? ⟨cb, 10, none⟩ = some sv5 := (World.cell?_of_block (a := ⟨cb, 10, none⟩) hbx).trans C10.out
      obtain ⟨x6, ch6⟩ := C5.out.next (C5.out.here.setStk (l := (wantC c3 z).stack ++ [tm]) (grown_alloc hgrow) (by rw [stackV_app, List.length_append]; exact hown) (newBlock_mono hnb (by simp)))
      have C6 := Lib.hid ch6
      clear hown hgrow hnb hne hbx c10 ch6
      go_wp2_with fail
      go_end0
      exact ⟨rfl, C6.out.upd.after BX.out.below⟩
    · have hoz : ok = true := by have := HOK.out; rw [hab, h0a] at this; simpa using this.symm
      subst hoz
      rw [hab] at e1
      rw [h0a] at e2
      clear hab h0a
      go_wp2_with fail
      refine (want_any true W4 B cb E _ _ k C4.out.here).mono ?_
      rintro e W5 ⟨rfl, u5⟩
      obtain ⟨x5, ch5⟩ := TAIL.out W5 u5
      have C5 := Lib.hid ch5
      obtain ⟨sv5, fv5⟩ := x5
      obtain ⟨c10, _, _⟩ := ch5.here.cells
      have hbl := ch5.here.lt
      have C10 := Lib.hid c10
      have HBS := Lib.hid (C5.out.size (Nat.le_trans hB (Nat.le_of_lt BX.out.size)))
      have HC4 := Lib.hid (show (wantC c3 true).stack.length + 1 ≤ maxLen by have : c3.stack.length < 3000000000000 := G3.out.stack; show c3.stack.length + 1 ≤ _; unfold maxLen; omega)
      have HC5 := Lib.hid (show ((wantC c3 true).stack.length + 1) * 1 ≤ 140737488355328 by have : c3.stack.length < 3000000000000 := G3.out.stack; show (c3.stack.length + 1) * 1 ≤ _; omega)
      have HC6 := Lib.hid (show B ≤ (W5.alloc (.cells #[.int .u8 (tm.toNat : Int)] 5)).heap.size by have := HBS.out; simp; omega)
      have HN := Lib.hid (news_at W5 #[.int .u8 (tm.toNat : Int)] 5 [.int .u8 (tm.toNat : Int)] rfl)
      clear u5 ch5
      go_wp2_with (at_builtin; refine wpList_append_own2 _ rfl _ _ 83 rfl B 5 i0 (.int .u8 0) 1 1 Tryz.underlying83 hi hz0 hz1 hz2 rfl (by decide) _ _ _ rfl (C5.out.here.stk.alloc _) ⟨W5.heap.size, 0, none⟩ 1 1 [.int .u8 (tm.toNat : Int)] rfl rfl HN.out (by intro u hu; rw [List.mem_singleton.1 hu]; rfl) (by decide) HC4.out HC5.out HC6.out ?_)
      intro v' w1 hown hgrow hnb
      obtain ⟨g', cap', rfl⟩ := Go.Joins.ownsRow_form hown (by omega)
      have hne : sv5.ownBlock ≠ some cb := fun e => (C5.out.here.rest.2.1 cb e).1 rfl
      have hbx : w1.heap[cb]? = W5.heap[cb]? := (grown_alloc hgrow).block cb C5.out.here.lt (Ne.symm hne)
      have fz1 : w1.frozen? ⟨cb, 10, none⟩ = false := (World.frozen?_of_block (a := ⟨cb, 10, none⟩) hbx).trans (C5.out.here.frozen 10)
      have cz : w1.cell? ⟨cb, 10, none⟩ = some sv5 := (World.cell?_of_block (a := ⟨cb, 10, none⟩) hbx).trans C10.out
      obtain ⟨x6, ch6⟩ := C5.out.next (C5.out.here.setStk (l := (wantC c3 true).stack ++ [tm]) (grown_alloc hgrow) (by rw [stackV_app, List.length_append]; exact hown) (newBlock_mono hnb (by simp)))
      have C6 := Lib.hid ch6
      clear hown hgrow hnb hne hbx c10 ch6
      go_wp2_with fail
      go_end0
      exact ⟨rfl, C6.out.upd.after BX.out.below⟩
  · have hoz : ok = true := by have := HOK.out; rw [hab] at this; simpa using this.symm
    subst hoz
    rw [hab] at e1
    clear hab
    go_wp2_with fail
    refine (want_any true W4 B cb E _ _ k C4.out.here).mono ?_
    rintro e W5 ⟨rfl, u5⟩
    obtain ⟨x5, ch5⟩ := TAIL.out W5 u5
    have C5 := Lib.hid ch5
    obtain ⟨sv5, fv5⟩ := x5
    obtain ⟨c10, _, _⟩ := ch5.here.cells
    have hbl := ch5.here.lt
    have C10 := Lib.hid c10
    have HBS := Lib.hid (C5.out.size (Nat.le_trans hB (Nat.le_of_lt BX.out.size)))
    have HC4 := Lib.hid (show (wantC c3 true).stack.length + 1 ≤ maxLen by have : c3.stack.length < 3000000000000 := G3.out.stack; show c3.stack.length + 1 ≤ _; unfold maxLen; omega)
    have HC5 := Lib.hid (show ((wantC c3 true).stack.length + 1) * 1 ≤ 140737488355328 by have : c3.stack.length < 3000000000000 := G3.out.stack; show (c3.stack.length + 1) * 1 ≤ _; omega)
    have HC6 := Lib.hid (show B ≤ (W5.alloc (.cells #[.int .u8 (tm.toNat : Int)] 5)).heap.size by have := HBS.out; simp; omega)
    have HN := Lib.hid (news_at W5 #[.int .u8 (tm.toNat : Int)] 5 [.int .u8 (tm.toNat : Int)] rfl)
    clear u5 ch5
    go_wp2_with (at_builtin; refine wpList_append_own2 _ rfl _ _ 83 rfl B 5 i0 (.int .u8 0) 1 1 Tryz.underlying83 hi hz0 hz1 hz2 rfl (by decide) _ _ _ rfl (C5.out.here.stk.alloc _) ⟨W5.heap.size, 0, none⟩ 1 1 [.int .u8 (tm.toNat : Int)] rfl rfl HN.out (by intro u hu; rw [List.mem_singleton.1 hu]; rfl) (by decide) HC4.out HC5.out HC6.out ?_)
    intro v' w1 hown hgrow hnb
    obtain ⟨g', cap', rfl⟩ := Go.Joins.ownsRow_form hown (by omega)
    have hne : sv5.ownBlock ≠ some cb := fun e => (C5.out.here.rest.2.1 cb e).1 rfl
    have hbx : w1.heap[cb]? = W5.heap[cb]? := (grown_alloc hgrow).block cb C5.out.here.lt (Ne.symm hne)
    have fz1 : w1.frozen? ⟨cb, 10, none⟩ = false := (World.frozen?_of_block (a := ⟨cb, 10, none⟩) hbx).trans (C5.out.here.frozen 10)
    have cz : w1.cell? ⟨cb, 10, none⟩ = some sv5 := (World.cell?_of_block (a := ⟨cb, 10, none⟩) hbx).trans C10.out
    obtain ⟨x6, ch6⟩ := C5.out.next (C5.out.here.setStk (l := (wantC c3 true).stack ++ [tm]) (grown_alloc hgrow) (by rw [stackV_app, List.length_append]; exact hown) (newBlock_mono hnb (by simp)))
    have C6 := Lib.hid ch6
    clear hown hgrow hnb hne hbx c10 ch6
    go_wp2_with fail
    go_end0
    exact ⟨rfl, C6.out.upd.after BX.out.below⟩
end Go.Proofs.YtmbgemcddjailaaGreatDoor.Vld

/- VldN: The last arm of the checker's step: an instruction by what is known of its code. No condition beyond what each theorem names. -/
namespace Go.Proofs.YtmbgemcddjailaaGreatDoor.Vld
open Go.RowKit Go.Maps Go.Proofs.YtmbgemcddjailaaGreatDoor.Op Go.Proofs.YtmbgemcddjailaaGreatDoor.Mod
set_option linter.unusedVariables false
theorem InfosAt.mono {w : World} {mb k k' : Nat} (h : InfosAt w mb k) (hk : k ≤ k') : InfosAt w mb k' := by
  obtain ⟨n, D, h1, h2, h3⟩ := h
  exact ⟨n, D, h1, h2, Nat.le_trans h3 hk⟩
theorem CkAt.mono {w : World} {B cb : Nat} {E : Ce} {x : Cx} {c : Ck} {k k' : Nat} (h : CkAt w B cb E x c k) (hk : k ≤ k') : CkAt w B cb E x c k' := ⟨h.box, h.low, h.stk, h.frm, h.inf.mono hk⟩
theorem Upd.mono {w w' : World} {B cb : Nat} {E : Ce} {x : Cx} {c : Ck} {k k' : Nat} (u : Upd w B cb E x c k w') (hk : k ≤ k') : Upd w B cb E x c k' w' := by
  obtain ⟨x', h1, h2, h3⟩ := u
  exact ⟨x', h1.mono hk, h2, h3⟩
/-- the infos, one more -/
theorem CkAt.setInf {w w1 : World} {B cb : Nat} {E : Ce} {x : Cx} {c : Ck} {k k' : Nat} (h : CkAt w B cb E x c k) {n : Nat} {D : DataW Value} (g : w.grownBy w1 (some E.mb)) (o : w1.ownsMap Tryz.prog 3 asIs E.mb n D) (hD : InfosOk D) (hn : n ≤ k') : Upd w B cb E x c k' w1 := by
  obtain ⟨r0, r1, r2⟩ := h.rest
  exact ⟨x, ⟨(g.block cb h.lt (fun e => r0 (Option.some.inj e).symm)).trans h.box, h.low, ownsRow_of h.stk (fun j hj => g.block j (h.stk.lt j hj).2 (fun e => (r1 j hj).2.1 (Option.some.inj e))), ownsRow_of h.frm (fun j hj => g.block j (h.frm.lt j hj).2 (fun e => (r2 j hj).2.1 (Option.some.inj e))), ⟨n, D, o, hD, hn⟩⟩, fun j hj => .inl hj, Keeps.grown g (fun j hj => .inr (.inl (Option.some.inj hj).symm))⟩
theorem infos_put {D : DataW Value} (h : InfosOk D) (code : Int) : InfosOk (D.put (.int .i64 code) (.held ((opInfo code).getD zeroI).toV)) := by
  obtain ⟨hD, hA⟩ := h
  refine ⟨by obtain ⟨es, rfl⟩ := hD; exact ⟨_, rfl⟩, fun m z hm => ?_⟩
  by_cases he : m = code
  · subst he
    exact atKey_put_same (k := .int .i64 m) hD (by simp [WideAt.IsKeyLit]) _ _
  · have hne : (Lit.int .i64 m) ≠ .int .i64 code := fun e => he (by simpa using e)
    rw [has_put_other hne] at hm
    rw [atKey_put_other hne]
    exact hA m z hm
/-- what is asked of the infos, and what they answer -/
theorem infos_look {w : World} {mb k : Nat} (h : InfosAt w mb k) (code : Int) (hc : (Lit.int .i64 code).wf = true) : ∃ n D, w.ownsMap Tryz.prog 3 asIs mb n D ∧ InfosOk D ∧ n ≤ k ∧ ((Maps.has D (.int .i64 code) = true ∧ ∀ W, W.heap[mb]? = w.heap[mb]? → (Instr.lookup 154 (.map (some mb)) (.int .i64 code) true).run Tryz.prog W = .ok (.tuple #[((opInfo code).getD zeroI).toV, .bool true]) W) ∨ (Maps.has D (.int .i64 code) = false ∧ ∀ W, W.heap[mb]? = w.heap[mb]? → (Instr.lookup 154 (.map (some mb)) (.int .i64 code) true).run Tryz.prog W = .ok (.tuple #[zeroI.toV, .bool false]) W)) := by
  obtain ⟨n, D, h1, h2, h3⟩ := h
  refine ⟨n, D, h1, h2, h3, ?_⟩
  cases hh : Maps.has D (.int .i64 code) with
  | true =>
    refine .inl ⟨rfl, fun W hW => ?_⟩
    obtain ⟨v, ps, hrun, hv⟩ := (ownsMap_of h1 hW).look_ok keyed_int Tryz.underlying154 (zero_info W) (show asIs zeroI.toV = some (.held zeroI.toV, []) from rfl) (key_int code hc)
    have hv2 : DataW.held v = D.atKey (.int .i64 code) (.held zeroI.toV) := congrArg Prod.fst (Option.some.inj hv)
    rw [h2.2 code _ hh] at hv2
    rw [held_inj hv2, hh] at hrun
    exact hrun
  | false =>
    refine .inr ⟨rfl, fun W hW => ?_⟩
    obtain ⟨v, ps, hrun, hv⟩ := (ownsMap_of h1 hW).look_ok keyed_int Tryz.underlying154 (zero_info W) (show asIs zeroI.toV = some (.held zeroI.toV, []) from rfl) (key_int code hc)
    have hv2 : DataW.held v = D.atKey (.int .i64 code) (.held zeroI.toV) := congrArg Prod.fst (Option.some.inj hv)
    rw [atKey_of_not_has hh] at hv2
    rw [held_inj hv2, hh] at hrun
    exact hrun
end Go.Proofs.YtmbgemcddjailaaGreatDoor.Vld

/- VldO: The last arm of the checker's step, walked. No condition beyond what each theorem names. -/
namespace Go.Proofs.YtmbgemcddjailaaGreatDoor.Vld
open Go.RowKit Go.Maps Go.Proofs.YtmbgemcddjailaaGreatDoor.Op Go.Proofs.YtmbgemcddjailaaGreatDoor.Mod
set_option linter.unusedVariables false
theorem table_small : (tableL.all fun e => decide (e.2.params.size ≤ 2) && decide (e.2.results.size ≤ 1)) = true := by kernel_rfl
theorem info_small {op : Int} {i : Info} (hi : opInfo op = some i) : i.params.size ≤ 2 ∧ i.results.size ≤ 1 := by
  have h := List.all_eq_true.1 table_small _ (opInfo_mem hi)
  simpa using h
def infoB (nm : ByteArray) (sh : Int) (p r : ByteArray) : Obj := .cells #[.string nm, .int .i64 sh, .string p, .string r] 177
theorem still_skips {F : Array Oper → World → (Act → Prop) → List Oper → Act → Prop} {P : Program} (hF : F = @wpStill P) : ∀ (ops : Array Oper) (w : World) (Q : Act → Prop) (o : Oper) (rest : List Oper) (a : Act), Region.wanted o (yielded ops a.tmps) = false → a.put o.dst undef = a → F ops w Q rest a → F ops w Q (o :: rest) a := by
  subst hF
  intro ops w Q o rest a hw hp h
  refine wpStill_step ?_
  intro K hK
  rw [if_neg (by rw [hw]; decide), hp]
  exact hK _ h
def lastC (v : Vn) (op a sh : Int) (p r : ByteArray) (c : Ck) : Ck := putC r.data.toList (takeC p.data.toList (wantC (wantC c (!v.m.memory.isEmpty || (sh != 5 && sh != 6))) (sh != 5 || decide (a ≤ reachOf op))))
theorem stepC_last {v : Vn} {x : InsL} {c : Ck} {i : Info} (hc : controlC v x c = none) (hi : opInfo x.op = some i) (h : x.op ≠ 16 ∧ x.op ≠ 26 ∧ x.op ≠ 27 ∧ x.op ≠ 32 ∧ x.op ≠ 33 ∧ x.op ≠ 34 ∧ x.op ≠ 35 ∧ x.op ≠ 36) : stepC v x c = lastC v x.op x.a i.shape i.params i.results c := by
  obtain ⟨h1, h2, h3, h4, h5, h6, h7, h8⟩ := h
  unfold stepC
  rw [hc]
  dsimp only
  rw [if_neg h1, if_neg h2, if_neg h3, if_neg h4, if_neg h5, if_neg h6, if_neg h7, if_neg h8, hi]
  rfl
abbrev HeldC (qb ib : Nat) (op a sh : Int) (W : World) : Prop := W.cell? ⟨qb, 0, none⟩ = some (.int .i64 op) ∧ W.cell? ⟨qb, 1, none⟩ = some (.int .i64 a) ∧ W.cell? ⟨ib, 1, none⟩ = some (.int .i64 sh)
structure InfoAt (W : World) (b : Nat) (nm : ByteArray) (sh : Int) (p r : ByteArray) : Prop where
  i0 : W.cell? ⟨b, 0, none⟩ = some (.string nm)
  i1 : W.cell? ⟨b, 1, none⟩ = some (.int .i64 sh)
  i2 : W.cell? ⟨b, 2, none⟩ = some (.string p)
  i3 : W.cell? ⟨b, 3, none⟩ = some (.string r)
theorem infoAt_new {W W2 : World} {nm : ByteArray} {sh : Int} {p r : ByteArray} (h : W2.heap[W.heap.size]? = some (.cells #[.string nm, .int .i64 sh, .string p, .string r] 177 (0, 0))) : InfoAt W2 W.heap.size nm sh p r :=
  ⟨(cell_of_row W2 _ _ _ _ _ h).trans rfl, (cell_of_row W2 _ _ _ _ _ h).trans rfl, (cell_of_row W2 _ _ _ _ _ h).trans rfl, (cell_of_row W2 _ _ _ _ _ h).trans rfl⟩
theorem InfoAt.chain {W W2 : World} {b : Nat} {nm : ByteArray} {sh : Int} {p r : ByteArray} {B cb : Nat} {E : Ce} {x x1 : Cx} {c1 : Ck} {k : Nat} (h : InfoAt W b nm sh p r) (hF : ¬ x.foot cb E b) (hc : Chain W B cb E x k W2 x1 c1) : InfoAt W2 b nm sh p r :=
  ⟨hc.cell h.i0 hF, hc.cell h.i1 hF, hc.cell h.i2 hF, hc.cell h.i3 hF⟩
theorem InfoAt.later {W W2 : World} {b : Nat} {nm : ByteArray} {sh : Int} {p r : ByteArray} (h : InfoAt W b nm sh p r) (hb : Below W.heap.size W W2) : InfoAt W2 b nm sh p r := ⟨cell_later hb h.i0, cell_later hb h.i1, cell_later hb h.i2, cell_later hb h.i3⟩
set_option maxRecDepth 100000 in
set_option maxHeartbeats 8000000 in
theorem last_m0 (v : Vn) (op a b : Int) (lv : Value) (zs : List Int) (nm : ByteArray) (p r : ByteArray) (w : World) (B cb : Nat) (E : Ce) (x : Cx) (c : Ck) (k : Nat) (l0 : List Fr) (f : Fr) (A : Ask w B cb E x c k v l0 f) (hi : opInfo op = some ⟨nm, 0, p, r⟩) (hwf : (Lit.int .i64 op).wf = true) (hcn : controlC v ⟨op, a, b, zs⟩ c = none)
    (g16 : (op == 16) = false) (g26 : (op == 26) = false) (g27 : (op == 27) = false) (g32 : (op == 32) = false) (g33 : (op == 33) = false) (g34 : (op == 34) = false) (g35 : (op == 35) = false) (g36 : (op == 36) = false)
    (hE : ∀ W, Below B w W → OpEnv W) (me : Option Addr) (L cap : Nat) (hme : E.me = .slice me L cap) (hk : k < maxLen) (hL : 0 < L) :
    Calls Tryz.prog 74 #[.pointer (some ⟨cb, 0, none⟩), .agg #[.int .i64 op, .int .i64 a, .int .i64 b, lv]] w fun e w' => e = .returned (.tuple #[]) ∧ Upd w B cb E x (putC r.data.toList (takeC p.data.toList (wantC (wantC c true) true))) (k + 1) w' := by
  have hL2 : decide (0 < L) = true := decide_eq_true hL
  obtain ⟨sp, sr⟩ := info_small hi
  have sp' : p.size ≤ 2 := sp
  have sr' : r.size ≤ 1 := sr
  have HF := Lib.hid A.few
  have H := Lib.hid A.here
  have HX := Lib.hid (foot_new A.here)
  have hB := A.low
  have HCT := Lib.hid (fun (W : World) => control_nope ⟨op, a, b, zs⟩ lv W cb (v := v) (c := c) hcn)
  have HE := Lib.hid hE
  have HWF := Lib.hid hwf
  have HOF := Lib.hid (fun (W : World) (hb : Below B w W) => of_lit op W (hE W hb) hwf nm p r 0 true (by rw [hi]; rfl) (by rw [hi]; rfl))
  have HTV := Lib.hid (show ((opInfo op).getD zeroI).toV = .agg #[.string nm, .int .i64 0, .string p, .string r] by rw [hi]; rfl)
  have HME := Lib.hid hme
  clear A hE hi hwf hcn sp sr hme
  go_enter Tryz.func74, Tryz.ntmps74
  go_wp2_with fail
  obtain ⟨W0, hW0⟩ : ∃ W0, w.alloc (.cells #[.int .i64 op, .int .i64 a, .int .i64 b, lv] 29) = W0 := ⟨_, rfl⟩
  rw [hW0]
  have bx0 := boxed_ins hW0
  clear hW0
  refine (HCT.out W0).mono ?_
  rintro e W1 ⟨rfl, b1⟩
  have BX := Lib.hid (bx0.later b1)
  clear bx0 b1
  obtain ⟨q0, q1, q2, q3⟩ : _ ∧ _ ∧ _ ∧ _ := ⟨BX.out.q0, BX.out.q1, BX.out.q2, BX.out.q3⟩
  have C1 := Lib.hid (Chain.start (H.out.later BX.out.below) (Below.refl _ _))
  have HB1 := Lib.hid (show Below B w W1 from BX.out.below.mono hB)
  obtain ⟨_, _, _, _, _, _, c9⟩ := C1.out.here.fixed
  have hbl := C1.out.here.lt
  have hmb := C1.out.here.mlt
  have hq := BX.out.size
  obtain ⟨n, D, hm, hD, hnk, hlook⟩ := infos_look C1.out.here.inf op HWF.out
  have ha2 : (W1.alloc (.cells #[.string ⟨#[]⟩, .int .i64 0, .string ⟨#[]⟩, .string ⟨#[]⟩] 177)).drew.heap[E.mb]? = W1.heap[E.mb]? := Below.heap_alloc _ _ _ hmb
  rcases hlook with ⟨_, hlook⟩ | ⟨_, hlook⟩
  · have hrun1 := hlook W1.drew rfl
    have hrun2 := hlook _ ha2
    rw [HTV.out] at hrun1 hrun2
    clear hlook ha2 hm hD hnk
    go_wp2_with fail
    go_region
    all_goals
      go_upto_region 7 with fail
      obtain ⟨W4, hW4⟩ : ∃ W4, (W1.alloc (.cells #[.string nm, .int .i64 0, .string p, .string r] 177)).drew = W4 := ⟨_, rfl⟩
      rw [hW4]
      have b4 : Below W1.heap.size W1 W4 := by rw [← hW4]; exact ((Below.refl _ _).alloc (Nat.le_refl _) _).drew
      have I4 := Lib.hid (show InfoAt W4 W1.heap.size nm 0 p r from infoAt_new (by rw [← hW4]; exact heap_alloc_new W1 _))
      have BX4 := Lib.hid (BX.out.later b4)
      have HB4 := Lib.hid (show B ≤ W4.heap.size from Nat.le_trans (Nat.le_trans hB (Nat.le_of_lt BX.out.size)) b4.size)
      have C5 := Lib.hid (Chain.start ((C1.out.here.later b4).mono (Nat.le_succ k)) (Below.refl W4.heap.size W4))
      have HB14 := Lib.hid b4
      clear hW4 b4 hrun1 hrun2 q0 q1 q2 q3 c9
      have HXB := Lib.hid (show ¬ x.foot cb E W1.heap.size from foot_new C1.out.here)
      obtain ⟨q0, q1, q2, q3⟩ := BX4.out.chain HX.out C5.out
      obtain ⟨i0, i1, i2, i3⟩ := I4.out.chain HXB.out C5.out
      obtain ⟨_, _, cme, _, _, _, _⟩ := C5.out.here.fixed
      rw [HME.out] at cme
      go_wp2_with fail
      refine (want_any true _ B cb E _ _ _ C5.out.here).mono ?_
      rintro e W6 ⟨rfl, u6⟩
      obtain ⟨x6, ch6⟩ := C5.out.next u6
      have C6 := Lib.hid ch6
      clear u6 ch6 q0 q1 q2 q3 i0 i1 i2 i3 cme
      obtain ⟨q0, q1, q2, q3⟩ := BX4.out.chain HX.out C6.out
      obtain ⟨i0, i1, i2, i3⟩ := I4.out.chain HXB.out C6.out
      go_wp2_with fail
      have HWT := Lib.hid (want_any true W6.drew B cb E x6 _ _ (C6.out.here.later (Below.refl _ _).drew))
      obtain ⟨F, hF⟩ : ∃ F, F = @wpStill Tryz.prog := ⟨_, rfl⟩
      have hskip := still_skips hF
      refine wp_region_still_tail 12 (by kernel_rfl) (by kernel_rfl) ?_
      simp only [List.take_succ_cons, List.take_zero, List.drop_succ_cons, List.drop_zero]
      iterate 5 still_step
      rw [← hF]
      refine hskip _ _ _ _ _ _ (by kernel_rfl) (by kernel_rfl) ?_
      refine hskip _ _ _ _ _ _ (by kernel_rfl) (by kernel_rfl) ?_
      refine hskip _ _ _ _ _ _ (by kernel_rfl) (by kernel_rfl) ?_
      refine hskip _ _ _ _ _ _ (by kernel_rfl) (by kernel_rfl) ?_
      refine hskip _ _ _ _ _ _ (by kernel_rfl) (by kernel_rfl) ?_
      refine hskip _ _ _ _ _ _ (by kernel_rfl) (by kernel_rfl) ?_
      rw [hF]
      clear hskip hF F
      still_step
      refine wpStill_nil ?_
      change wpList _ _ _ _ _ W6.drew
      go_wp2_with fail
      refine HWT.out.mono ?_
      rintro e W7 ⟨rfl, u7⟩
      obtain ⟨x7, ch7⟩ := (C6.out.later (Below.refl _ _).drew).next u7
      have C7 := Lib.hid ch7
      clear u7 ch7
      obtain ⟨i0, i1, i2, i3⟩ := I4.out.chain HXB.out C7.out
      have F7 := Lib.hid ((HF.out.want true).want true)
      go_wp2_with fail
      refine (take_any p _ B cb E _ _ _ C7.out.here l0 f F7.out.frames F7.out.height F7.out.stack F7.out.many (by omega)).mono ?_
      rintro e W8 ⟨rfl, u8⟩
      obtain ⟨x8, ch8⟩ := C7.out.next u8
      have C8 := Lib.hid ch8
      have F8 := Lib.hid (F7.out.take p.data.toList)
      clear u8 ch8 i0 i1 i2 i3
      obtain ⟨i0, i1, i2, i3⟩ := I4.out.chain HXB.out C8.out
      go_wp2_with fail
      refine (put_any r _ B cb E _ _ _ C8.out.here (C8.out.size HB4.out) F8.out.stack (by omega)).mono ?_
      rintro e W9 ⟨rfl, u9⟩
      obtain ⟨x9, ch9⟩ := C8.out.next u9
      have C9 := Lib.hid ch9
      clear u9 ch9 i0 i1 i2 i3
      go_wp2_with fail
      go_end0
      exact ⟨rfl, C9.out.upd.after BX4.out.below⟩
  · have hrun1 := hlook W1.drew rfl
    have hrun2 := hlook _ ha2
    change _ = Result.ok (Value.tuple #[.agg #[.string ⟨#[]⟩, .int .i64 0, .string ⟨#[]⟩, .string ⟨#[]⟩], .bool false]) _ at hrun1 hrun2
    have HM := Lib.hid hm
    have HD := Lib.hid hD
    have HNK := Lib.hid hnk
    clear hlook ha2 hm hD hnk
    go_wp2_with fail
    go_region
    all_goals
      go_wp2_with fail
      obtain ⟨W2, hW2⟩ : ∃ W2, (W1.alloc (.cells #[.string ⟨#[]⟩, .int .i64 0, .string ⟨#[]⟩, .string ⟨#[]⟩] 177)).drew = W2 := ⟨_, rfl⟩
      rw [hW2]
      have b2 : Below W1.heap.size W1 W2 := by rw [← hW2]; exact ((Below.refl _ _).alloc (Nat.le_refl _) _).drew
      have hz2 : W2.heap[W1.heap.size]? = some (.cells #[.string ⟨#[]⟩, .int .i64 0, .string ⟨#[]⟩, .string ⟨#[]⟩] 177 (0, 0)) := by rw [← hW2]; exact heap_alloc_new W1 _
      have B2 := Lib.hid b2
      have Z2 := Lib.hid hz2
      clear hW2 b2 hz2 hrun1 hrun2 q0 q1 q2 q3 c9
      refine (HOF.out W2 (HB1.out.trans (B2.out.mono (Nat.le_trans hB (Nat.le_of_lt BX.out.size))))).mono ?_
      rintro e W3 ⟨rfl, b3⟩
      have hz3 : W3.heap[W1.heap.size]? = some (.cells #[.string ⟨#[]⟩, .int .i64 0, .string ⟨#[]⟩, .string ⟨#[]⟩] 177 (0, 0)) := (b3.block _ (Array.getElem?_eq_some_iff.1 Z2.out).1).trans Z2.out
      have z0 : W3.cell? ⟨W1.heap.size, 0, none⟩ = some (.string ⟨#[]⟩) := (cell_of_row W3 _ _ _ _ _ hz3).trans rfl
      have z1 : W3.cell? ⟨W1.heap.size, 1, none⟩ = some (.int .i64 0) := (cell_of_row W3 _ _ _ _ _ hz3).trans rfl
      have z2 : W3.cell? ⟨W1.heap.size, 2, none⟩ = some (.string ⟨#[]⟩) := (cell_of_row W3 _ _ _ _ _ hz3).trans rfl
      have z3 : W3.cell? ⟨W1.heap.size, 3, none⟩ = some (.string ⟨#[]⟩) := (cell_of_row W3 _ _ _ _ _ hz3).trans rfl
      have zf : ∀ j, W3.frozen? ⟨W1.heap.size, j, none⟩ = false := fun j => frozen_of_row W3 _ j _ _ hz3
      have b13 := B2.out.trans (b3.mono B2.out.size)
      have B13 := Lib.hid b13
      have Z3 := Lib.hid hz3
      clear b3 hz3 b13
      go_upto_region 6 with fail
      obtain ⟨W4, hW4⟩ : ∃ W4, (((W3.setCell ⟨W1.heap.size, 0, none⟩ (.string nm)).setCell ⟨W1.heap.size, 1, none⟩ (.int .i64 0)).setCell ⟨W1.heap.size, 2, none⟩ (.string p)).setCell ⟨W1.heap.size, 3, none⟩ (.string r) = W4 := ⟨_, rfl⟩
      rw [hW4]
      have b4 : Below W1.heap.size W1 W4 := by rw [← hW4]; exact (((B13.out.setCell (Nat.le_refl _) _).setCell (Nat.le_refl _) _).setCell (Nat.le_refl _) _).setCell (Nat.le_refl _) _
      have hi4 : W4.heap[W1.heap.size]? = some (.cells #[.string nm, .int .i64 0, .string p, .string r] 177 (0, 0)) := by
        rw [← hW4, box_set (box_set (box_set (box_set Z3.out 0 _) 1 _) 2 _) 3 _]
        rfl
      have i4 : InfoAt W4 W1.heap.size nm 0 p r := infoAt_new hi4
      have I4 := Lib.hid i4
      have BX4 := Lib.hid (BX.out.later b4)
      have HB4 := Lib.hid (show B ≤ W4.heap.size from Nat.le_trans (Nat.le_trans hB (Nat.le_of_lt BX.out.size)) b4.size)
      have C4 := Lib.hid (C1.out.here.later b4)
      have HM4 := Lib.hid (ownsMap_of HM.out (b4.block _ hmb))
      have HB14 := Lib.hid b4
      clear hW4 b4 z0 z1 z2 z3 zf hi4
      obtain ⟨i0, i1, i2, i3⟩ := i4
      obtain ⟨q0, q1, q2, q3⟩ : _ ∧ _ ∧ _ ∧ _ := ⟨BX4.out.q0, BX4.out.q1, BX4.out.q2, BX4.out.q3⟩
      obtain ⟨_, _, _, _, _, _, c9⟩ := C4.out.fixed
      obtain ⟨W5, hrun, hown, hgr⟩ := HM4.out.drew.update (val := .agg #[.string nm, .int .i64 0, .string p, .string r]) keyed_int Tryz.underlying154 (Nat.lt_of_le_of_lt HNK.out hk) (key_int op HWF.out) rfl
      have hok := infos_put HD.out op
      rw [HTV.out] at hok
      have hC5 := (Chain.start C4.out (Below.refl W4.heap.size W4).drew).next ((C4.out.later (Below.refl _ _).drew).setInf hgr hown hok (Nat.succ_le_succ HNK.out))
      have HC5 := Lib.hid hC5
      clear hown hgr hok hC5
      go_wp2_with fail
      go_still_tail 7, (by kernel_rfl)
      change wpList _ _ _ _ _ W4.drew
      go_upto_region 7 with fail
      clear hrun q0 q1 q2 q3 c9 i0 i1 i2 i3
      obtain ⟨x5, ch5⟩ := HC5.out
      have C5 := Lib.hid ch5
      clear ch5
      have HXB := Lib.hid (show ¬ x.foot cb E W1.heap.size from foot_new C1.out.here)
      obtain ⟨q0, q1, q2, q3⟩ := BX4.out.chain HX.out C5.out
      obtain ⟨i0, i1, i2, i3⟩ := I4.out.chain HXB.out C5.out
      obtain ⟨_, _, cme, _, _, _, _⟩ := C5.out.here.fixed
      rw [HME.out] at cme
      go_wp2_with fail
      refine (want_any true _ B cb E _ _ _ C5.out.here).mono ?_
      rintro e W6 ⟨rfl, u6⟩
      obtain ⟨x6, ch6⟩ := C5.out.next u6
      have C6 := Lib.hid ch6
      clear u6 ch6 q0 q1 q2 q3 i0 i1 i2 i3 cme
      obtain ⟨q0, q1, q2, q3⟩ := BX4.out.chain HX.out C6.out
      obtain ⟨i0, i1, i2, i3⟩ := I4.out.chain HXB.out C6.out
      go_wp2_with fail
      have HWT := Lib.hid (want_any true W6.drew B cb E x6 _ _ (C6.out.here.later (Below.refl _ _).drew))
      obtain ⟨F, hF⟩ : ∃ F, F = @wpStill Tryz.prog := ⟨_, rfl⟩
      have hskip := still_skips hF
      refine wp_region_still_tail 12 (by kernel_rfl) (by kernel_rfl) ?_
      simp only [List.take_succ_cons, List.take_zero, List.drop_succ_cons, List.drop_zero]
      iterate 5 still_step
      rw [← hF]
      refine hskip _ _ _ _ _ _ (by kernel_rfl) (by kernel_rfl) ?_
      refine hskip _ _ _ _ _ _ (by kernel_rfl) (by kernel_rfl) ?_
      refine hskip _ _ _ _ _ _ (by kernel_rfl) (by kernel_rfl) ?_
      refine hskip _ _ _ _ _ _ (by kernel_rfl) (by kernel_rfl) ?_
      refine hskip _ _ _ _ _ _ (by kernel_rfl) (by kernel_rfl) ?_
      refine hskip _ _ _ _ _ _ (by kernel_rfl) (by kernel_rfl) ?_
      rw [hF]
      clear hskip hF F
      still_step
      refine wpStill_nil ?_
      change wpList _ _ _ _ _ W6.drew
      go_wp2_with fail
      refine HWT.out.mono ?_
      rintro e W7 ⟨rfl, u7⟩
      obtain ⟨x7, ch7⟩ := (C6.out.later (Below.refl _ _).drew).next u7
      have C7 := Lib.hid ch7
      clear u7 ch7
      obtain ⟨i0, i1, i2, i3⟩ := I4.out.chain HXB.out C7.out
      have F7 := Lib.hid ((HF.out.want true).want true)
      go_wp2_with fail
      refine (take_any p _ B cb E _ _ _ C7.out.here l0 f F7.out.frames F7.out.height F7.out.stack F7.out.many (by omega)).mono ?_
      rintro e W8 ⟨rfl, u8⟩
      obtain ⟨x8, ch8⟩ := C7.out.next u8
      have C8 := Lib.hid ch8
      have F8 := Lib.hid (F7.out.take p.data.toList)
      clear u8 ch8 i0 i1 i2 i3
      obtain ⟨i0, i1, i2, i3⟩ := I4.out.chain HXB.out C8.out
      go_wp2_with fail
      refine (put_any r _ B cb E _ _ _ C8.out.here (C8.out.size HB4.out) F8.out.stack (by omega)).mono ?_
      rintro e W9 ⟨rfl, u9⟩
      obtain ⟨x9, ch9⟩ := C8.out.next u9
      have C9 := Lib.hid ch9
      clear u9 ch9 i0 i1 i2 i3
      go_wp2_with fail
      go_end0
      exact ⟨rfl, C9.out.upd.after BX4.out.below⟩
set_option maxRecDepth 100000 in
set_option maxHeartbeats 8000000 in
theorem last_m6 (v : Vn) (op a b : Int) (lv : Value) (zs : List Int) (nm : ByteArray) (p r : ByteArray) (w : World) (B cb : Nat) (E : Ce) (x : Cx) (c : Ck) (k : Nat) (l0 : List Fr) (f : Fr) (A : Ask w B cb E x c k v l0 f) (hi : opInfo op = some ⟨nm, 6, p, r⟩) (hwf : (Lit.int .i64 op).wf = true) (hcn : controlC v ⟨op, a, b, zs⟩ c = none)
    (g16 : (op == 16) = false) (g26 : (op == 26) = false) (g27 : (op == 27) = false) (g32 : (op == 32) = false) (g33 : (op == 33) = false) (g34 : (op == 34) = false) (g35 : (op == 35) = false) (g36 : (op == 36) = false)
    (hE : ∀ W, Below B w W → OpEnv W) (me : Option Addr) (L cap : Nat) (hme : E.me = .slice me L cap) (hk : k < maxLen) (hL : 0 < L) :
    Calls Tryz.prog 74 #[.pointer (some ⟨cb, 0, none⟩), .agg #[.int .i64 op, .int .i64 a, .int .i64 b, lv]] w fun e w' => e = .returned (.tuple #[]) ∧ Upd w B cb E x (putC r.data.toList (takeC p.data.toList (wantC (wantC c true) true))) (k + 1) w' := by
  have hL2 : decide (0 < L) = true := decide_eq_true hL
  obtain ⟨sp, sr⟩ := info_small hi
  have sp' : p.size ≤ 2 := sp
  have sr' : r.size ≤ 1 := sr
  have HF := Lib.hid A.few
  have H := Lib.hid A.here
  have HX := Lib.hid (foot_new A.here)
  have hB := A.low
  have HCT := Lib.hid (fun (W : World) => control_nope ⟨op, a, b, zs⟩ lv W cb (v := v) (c := c) hcn)
  have HE := Lib.hid hE
  have HWF := Lib.hid hwf
  have HOF := Lib.hid (fun (W : World) (hb : Below B w W) => of_lit op W (hE W hb) hwf nm p r 6 true (by rw [hi]; rfl) (by rw [hi]; rfl))
  have HTV := Lib.hid (show ((opInfo op).getD zeroI).toV = .agg #[.string nm, .int .i64 6, .string p, .string r] by rw [hi]; rfl)
  have HME := Lib.hid hme
  clear A hE hi hwf hcn sp sr hme
  go_enter Tryz.func74, Tryz.ntmps74
  go_wp2_with fail
  obtain ⟨W0, hW0⟩ : ∃ W0, w.alloc (.cells #[.int .i64 op, .int .i64 a, .int .i64 b, lv] 29) = W0 := ⟨_, rfl⟩
  rw [hW0]
  have bx0 := boxed_ins hW0
  clear hW0
  refine (HCT.out W0).mono ?_
  rintro e W1 ⟨rfl, b1⟩
  have BX := Lib.hid (bx0.later b1)
  clear bx0 b1
  obtain ⟨q0, q1, q2, q3⟩ : _ ∧ _ ∧ _ ∧ _ := ⟨BX.out.q0, BX.out.q1, BX.out.q2, BX.out.q3⟩
  have C1 := Lib.hid (Chain.start (H.out.later BX.out.below) (Below.refl _ _))
  have HB1 := Lib.hid (show Below B w W1 from BX.out.below.mono hB)
  obtain ⟨_, _, _, _, _, _, c9⟩ := C1.out.here.fixed
  have hbl := C1.out.here.lt
  have hmb := C1.out.here.mlt
  have hq := BX.out.size
  obtain ⟨n, D, hm, hD, hnk, hlook⟩ := infos_look C1.out.here.inf op HWF.out
  have ha2 : (W1.alloc (.cells #[.string ⟨#[]⟩, .int .i64 0, .string ⟨#[]⟩, .string ⟨#[]⟩] 177)).drew.heap[E.mb]? = W1.heap[E.mb]? := Below.heap_alloc _ _ _ hmb
  rcases hlook with ⟨_, hlook⟩ | ⟨_, hlook⟩
  · have hrun1 := hlook W1.drew rfl
    have hrun2 := hlook _ ha2
    rw [HTV.out] at hrun1 hrun2
    clear hlook ha2 hm hD hnk
    go_wp2_with fail
    go_region
    all_goals
      go_upto_region 7 with fail
      obtain ⟨W4, hW4⟩ : ∃ W4, (W1.alloc (.cells #[.string nm, .int .i64 6, .string p, .string r] 177)).drew = W4 := ⟨_, rfl⟩
      rw [hW4]
      have b4 : Below W1.heap.size W1 W4 := by rw [← hW4]; exact ((Below.refl _ _).alloc (Nat.le_refl _) _).drew
      have I4 := Lib.hid (show InfoAt W4 W1.heap.size nm 6 p r from infoAt_new (by rw [← hW4]; exact heap_alloc_new W1 _))
      have BX4 := Lib.hid (BX.out.later b4)
      have HB4 := Lib.hid (show B ≤ W4.heap.size from Nat.le_trans (Nat.le_trans hB (Nat.le_of_lt BX.out.size)) b4.size)
      have C5 := Lib.hid (Chain.start ((C1.out.here.later b4).mono (Nat.le_succ k)) (Below.refl W4.heap.size W4))
      have HB14 := Lib.hid b4
      clear hW4 b4 hrun1 hrun2 q0 q1 q2 q3 c9
      have HXB := Lib.hid (show ¬ x.foot cb E W1.heap.size from foot_new C1.out.here)
      obtain ⟨q0, q1, q2, q3⟩ := BX4.out.chain HX.out C5.out
      obtain ⟨i0, i1, i2, i3⟩ := I4.out.chain HXB.out C5.out
      obtain ⟨_, _, cme, _, _, _, _⟩ := C5.out.here.fixed
      rw [HME.out] at cme
      go_wp2_with fail
      refine (want_any true _ B cb E _ _ _ C5.out.here).mono ?_
      rintro e W6 ⟨rfl, u6⟩
      obtain ⟨x6, ch6⟩ := C5.out.next u6
      have C6 := Lib.hid ch6
      clear u6 ch6 q0 q1 q2 q3 i0 i1 i2 i3 cme
      obtain ⟨q0, q1, q2, q3⟩ := BX4.out.chain HX.out C6.out
      obtain ⟨i0, i1, i2, i3⟩ := I4.out.chain HXB.out C6.out
      go_wp2_with fail
      have HWT := Lib.hid (want_any true W6.drew B cb E x6 _ _ (C6.out.here.later (Below.refl _ _).drew))
      obtain ⟨F, hF⟩ : ∃ F, F = @wpStill Tryz.prog := ⟨_, rfl⟩
      have hskip := still_skips hF
      refine wp_region_still_tail 12 (by kernel_rfl) (by kernel_rfl) ?_
      simp only [List.take_succ_cons, List.take_zero, List.drop_succ_cons, List.drop_zero]
      iterate 5 still_step
      rw [← hF]
      refine hskip _ _ _ _ _ _ (by kernel_rfl) (by kernel_rfl) ?_
      refine hskip _ _ _ _ _ _ (by kernel_rfl) (by kernel_rfl) ?_
      refine hskip _ _ _ _ _ _ (by kernel_rfl) (by kernel_rfl) ?_
      refine hskip _ _ _ _ _ _ (by kernel_rfl) (by kernel_rfl) ?_
      refine hskip _ _ _ _ _ _ (by kernel_rfl) (by kernel_rfl) ?_
      refine hskip _ _ _ _ _ _ (by kernel_rfl) (by kernel_rfl) ?_
      rw [hF]
      clear hskip hF F
      still_step
      refine wpStill_nil ?_
      change wpList _ _ _ _ _ W6.drew
      go_wp2_with fail
      refine HWT.out.mono ?_
      rintro e W7 ⟨rfl, u7⟩
      obtain ⟨x7, ch7⟩ := (C6.out.later (Below.refl _ _).drew).next u7
      have C7 := Lib.hid ch7
      clear u7 ch7
      obtain ⟨i0, i1, i2, i3⟩ := I4.out.chain HXB.out C7.out
      have F7 := Lib.hid ((HF.out.want true).want true)
      go_wp2_with fail
      refine (take_any p _ B cb E _ _ _ C7.out.here l0 f F7.out.frames F7.out.height F7.out.stack F7.out.many (by omega)).mono ?_
      rintro e W8 ⟨rfl, u8⟩
      obtain ⟨x8, ch8⟩ := C7.out.next u8
      have C8 := Lib.hid ch8
      have F8 := Lib.hid (F7.out.take p.data.toList)
      clear u8 ch8 i0 i1 i2 i3
      obtain ⟨i0, i1, i2, i3⟩ := I4.out.chain HXB.out C8.out
      go_wp2_with fail
      refine (put_any r _ B cb E _ _ _ C8.out.here (C8.out.size HB4.out) F8.out.stack (by omega)).mono ?_
      rintro e W9 ⟨rfl, u9⟩
      obtain ⟨x9, ch9⟩ := C8.out.next u9
      have C9 := Lib.hid ch9
      clear u9 ch9 i0 i1 i2 i3
      go_wp2_with fail
      go_end0
      exact ⟨rfl, C9.out.upd.after BX4.out.below⟩
  · have hrun1 := hlook W1.drew rfl
    have hrun2 := hlook _ ha2
    change _ = Result.ok (Value.tuple #[.agg #[.string ⟨#[]⟩, .int .i64 0, .string ⟨#[]⟩, .string ⟨#[]⟩], .bool false]) _ at hrun1 hrun2
    have HM := Lib.hid hm
    have HD := Lib.hid hD
    have HNK := Lib.hid hnk
    clear hlook ha2 hm hD hnk
    go_wp2_with fail
    go_region
    all_goals
      go_wp2_with fail
      obtain ⟨W2, hW2⟩ : ∃ W2, (W1.alloc (.cells #[.string ⟨#[]⟩, .int .i64 0, .string ⟨#[]⟩, .string ⟨#[]⟩] 177)).drew = W2 := ⟨_, rfl⟩
      rw [hW2]
      have b2 : Below W1.heap.size W1 W2 := by rw [← hW2]; exact ((Below.refl _ _).alloc (Nat.le_refl _) _).drew
      have hz2 : W2.heap[W1.heap.size]? = some (.cells #[.string ⟨#[]⟩, .int .i64 0, .string ⟨#[]⟩, .string ⟨#[]⟩] 177 (0, 0)) := by rw [← hW2]; exact heap_alloc_new W1 _
      have B2 := Lib.hid b2
      have Z2 := Lib.hid hz2
      clear hW2 b2 hz2 hrun1 hrun2 q0 q1 q2 q3 c9
      refine (HOF.out W2 (HB1.out.trans (B2.out.mono (Nat.le_trans hB (Nat.le_of_lt BX.out.size))))).mono ?_
      rintro e W3 ⟨rfl, b3⟩
      have hz3 : W3.heap[W1.heap.size]? = some (.cells #[.string ⟨#[]⟩, .int .i64 0, .string ⟨#[]⟩, .string ⟨#[]⟩] 177 (0, 0)) := (b3.block _ (Array.getElem?_eq_some_iff.1 Z2.out).1).trans Z2.out
      have z0 : W3.cell? ⟨W1.heap.size, 0, none⟩ = some (.string ⟨#[]⟩) := (cell_of_row W3 _ _ _ _ _ hz3).trans rfl
      have z1 : W3.cell? ⟨W1.heap.size, 1, none⟩ = some (.int .i64 0) := (cell_of_row W3 _ _ _ _ _ hz3).trans rfl
      have z2 : W3.cell? ⟨W1.heap.size, 2, none⟩ = some (.string ⟨#[]⟩) := (cell_of_row W3 _ _ _ _ _ hz3).trans rfl
      have z3 : W3.cell? ⟨W1.heap.size, 3, none⟩ = some (.string ⟨#[]⟩) := (cell_of_row W3 _ _ _ _ _ hz3).trans rfl
      have zf : ∀ j, W3.frozen? ⟨W1.heap.size, j, none⟩ = false := fun j => frozen_of_row W3 _ j _ _ hz3
      have b13 := B2.out.trans (b3.mono B2.out.size)
      have B13 := Lib.hid b13
      have Z3 := Lib.hid hz3
      clear b3 hz3 b13
      go_upto_region 6 with fail
      obtain ⟨W4, hW4⟩ : ∃ W4, (((W3.setCell ⟨W1.heap.size, 0, none⟩ (.string nm)).setCell ⟨W1.heap.size, 1, none⟩ (.int .i64 6)).setCell ⟨W1.heap.size, 2, none⟩ (.string p)).setCell ⟨W1.heap.size, 3, none⟩ (.string r) = W4 := ⟨_, rfl⟩
      rw [hW4]
      have b4 : Below W1.heap.size W1 W4 := by rw [← hW4]; exact (((B13.out.setCell (Nat.le_refl _) _).setCell (Nat.le_refl _) _).setCell (Nat.le_refl _) _).setCell (Nat.le_refl _) _
      have hi4 : W4.heap[W1.heap.size]? = some (.cells #[.string nm, .int .i64 6, .string p, .string r] 177 (0, 0)) := by
        rw [← hW4, box_set (box_set (box_set (box_set Z3.out 0 _) 1 _) 2 _) 3 _]
        rfl
      have i4 : InfoAt W4 W1.heap.size nm 6 p r := infoAt_new hi4
      have I4 := Lib.hid i4
      have BX4 := Lib.hid (BX.out.later b4)
      have HB4 := Lib.hid (show B ≤ W4.heap.size from Nat.le_trans (Nat.le_trans hB (Nat.le_of_lt BX.out.size)) b4.size)
      have C4 := Lib.hid (C1.out.here.later b4)
      have HM4 := Lib.hid (ownsMap_of HM.out (b4.block _ hmb))
      have HB14 := Lib.hid b4
      clear hW4 b4 z0 z1 z2 z3 zf hi4
      obtain ⟨i0, i1, i2, i3⟩ := i4
      obtain ⟨q0, q1, q2, q3⟩ : _ ∧ _ ∧ _ ∧ _ := ⟨BX4.out.q0, BX4.out.q1, BX4.out.q2, BX4.out.q3⟩
      obtain ⟨_, _, _, _, _, _, c9⟩ := C4.out.fixed
      obtain ⟨W5, hrun, hown, hgr⟩ := HM4.out.drew.update (val := .agg #[.string nm, .int .i64 6, .string p, .string r]) keyed_int Tryz.underlying154 (Nat.lt_of_le_of_lt HNK.out hk) (key_int op HWF.out) rfl
      have hok := infos_put HD.out op
      rw [HTV.out] at hok
      have hC5 := (Chain.start C4.out (Below.refl W4.heap.size W4).drew).next ((C4.out.later (Below.refl _ _).drew).setInf hgr hown hok (Nat.succ_le_succ HNK.out))
      have HC5 := Lib.hid hC5
      clear hown hgr hok hC5
      go_wp2_with fail
      go_still_tail 7, (by kernel_rfl)
      change wpList _ _ _ _ _ W4.drew
      go_upto_region 7 with fail
      clear hrun q0 q1 q2 q3 c9 i0 i1 i2 i3
      obtain ⟨x5, ch5⟩ := HC5.out
      have C5 := Lib.hid ch5
      clear ch5
      have HXB := Lib.hid (show ¬ x.foot cb E W1.heap.size from foot_new C1.out.here)
      obtain ⟨q0, q1, q2, q3⟩ := BX4.out.chain HX.out C5.out
      obtain ⟨i0, i1, i2, i3⟩ := I4.out.chain HXB.out C5.out
      obtain ⟨_, _, cme, _, _, _, _⟩ := C5.out.here.fixed
      rw [HME.out] at cme
      go_wp2_with fail
      refine (want_any true _ B cb E _ _ _ C5.out.here).mono ?_
      rintro e W6 ⟨rfl, u6⟩
      obtain ⟨x6, ch6⟩ := C5.out.next u6
      have C6 := Lib.hid ch6
      clear u6 ch6 q0 q1 q2 q3 i0 i1 i2 i3 cme
      obtain ⟨q0, q1, q2, q3⟩ := BX4.out.chain HX.out C6.out
      obtain ⟨i0, i1, i2, i3⟩ := I4.out.chain HXB.out C6.out
      go_wp2_with fail
      have HWT := Lib.hid (want_any true W6.drew B cb E x6 _ _ (C6.out.here.later (Below.refl _ _).drew))
      obtain ⟨F, hF⟩ : ∃ F, F = @wpStill Tryz.prog := ⟨_, rfl⟩
      have hskip := still_skips hF
      refine wp_region_still_tail 12 (by kernel_rfl) (by kernel_rfl) ?_
      simp only [List.take_succ_cons, List.take_zero, List.drop_succ_cons, List.drop_zero]
      iterate 5 still_step
      rw [← hF]
      refine hskip _ _ _ _ _ _ (by kernel_rfl) (by kernel_rfl) ?_
      refine hskip _ _ _ _ _ _ (by kernel_rfl) (by kernel_rfl) ?_
      refine hskip _ _ _ _ _ _ (by kernel_rfl) (by kernel_rfl) ?_
      refine hskip _ _ _ _ _ _ (by kernel_rfl) (by kernel_rfl) ?_
      refine hskip _ _ _ _ _ _ (by kernel_rfl) (by kernel_rfl) ?_
      refine hskip _ _ _ _ _ _ (by kernel_rfl) (by kernel_rfl) ?_
      rw [hF]
      clear hskip hF F
      still_step
      refine wpStill_nil ?_
      change wpList _ _ _ _ _ W6.drew
      go_wp2_with fail
      refine HWT.out.mono ?_
      rintro e W7 ⟨rfl, u7⟩
      obtain ⟨x7, ch7⟩ := (C6.out.later (Below.refl _ _).drew).next u7
      have C7 := Lib.hid ch7
      clear u7 ch7
      obtain ⟨i0, i1, i2, i3⟩ := I4.out.chain HXB.out C7.out
      have F7 := Lib.hid ((HF.out.want true).want true)
      go_wp2_with fail
      refine (take_any p _ B cb E _ _ _ C7.out.here l0 f F7.out.frames F7.out.height F7.out.stack F7.out.many (by omega)).mono ?_
      rintro e W8 ⟨rfl, u8⟩
      obtain ⟨x8, ch8⟩ := C7.out.next u8
      have C8 := Lib.hid ch8
      have F8 := Lib.hid (F7.out.take p.data.toList)
      clear u8 ch8 i0 i1 i2 i3
      obtain ⟨i0, i1, i2, i3⟩ := I4.out.chain HXB.out C8.out
      go_wp2_with fail
      refine (put_any r _ B cb E _ _ _ C8.out.here (C8.out.size HB4.out) F8.out.stack (by omega)).mono ?_
      rintro e W9 ⟨rfl, u9⟩
      obtain ⟨x9, ch9⟩ := C8.out.next u9
      have C9 := Lib.hid ch9
      clear u9 ch9 i0 i1 i2 i3
      go_wp2_with fail
      go_end0
      exact ⟨rfl, C9.out.upd.after BX4.out.below⟩
end Go.Proofs.YtmbgemcddjailaaGreatDoor.Vld

/- VldOb: The last arm of the checker's step, walked. No condition beyond what each theorem names. -/
namespace Go.Proofs.YtmbgemcddjailaaGreatDoor.Vld
open Go.RowKit Go.Maps Go.Proofs.YtmbgemcddjailaaGreatDoor.Op Go.Proofs.YtmbgemcddjailaaGreatDoor.Mod
set_option linter.unusedVariables false
set_option maxRecDepth 100000 in
set_option maxHeartbeats 8000000 in
theorem last_m7 (v : Vn) (op a b : Int) (lv : Value) (zs : List Int) (nm : ByteArray) (p r : ByteArray) (w : World) (B cb : Nat) (E : Ce) (x : Cx) (c : Ck) (k : Nat) (l0 : List Fr) (f : Fr) (A : Ask w B cb E x c k v l0 f) (hi : opInfo op = some ⟨nm, 7, p, r⟩) (hwf : (Lit.int .i64 op).wf = true) (hcn : controlC v ⟨op, a, b, zs⟩ c = none)
    (g16 : (op == 16) = false) (g26 : (op == 26) = false) (g27 : (op == 27) = false) (g32 : (op == 32) = false) (g33 : (op == 33) = false) (g34 : (op == 34) = false) (g35 : (op == 35) = false) (g36 : (op == 36) = false)
    (hE : ∀ W, Below B w W → OpEnv W) (me : Option Addr) (L cap : Nat) (hme : E.me = .slice me L cap) (hk : k < maxLen) (hL : 0 < L) :
    Calls Tryz.prog 74 #[.pointer (some ⟨cb, 0, none⟩), .agg #[.int .i64 op, .int .i64 a, .int .i64 b, lv]] w fun e w' => e = .returned (.tuple #[]) ∧ Upd w B cb E x (putC r.data.toList (takeC p.data.toList (wantC (wantC c true) true))) (k + 1) w' := by
  have hL2 : decide (0 < L) = true := decide_eq_true hL
  obtain ⟨sp, sr⟩ := info_small hi
  have sp' : p.size ≤ 2 := sp
  have sr' : r.size ≤ 1 := sr
  have HF := Lib.hid A.few
  have H := Lib.hid A.here
  have HX := Lib.hid (foot_new A.here)
  have hB := A.low
  have HCT := Lib.hid (fun (W : World) => control_nope ⟨op, a, b, zs⟩ lv W cb (v := v) (c := c) hcn)
  have HE := Lib.hid hE
  have HWF := Lib.hid hwf
  have HOF := Lib.hid (fun (W : World) (hb : Below B w W) => of_lit op W (hE W hb) hwf nm p r 7 true (by rw [hi]; rfl) (by rw [hi]; rfl))
  have HTV := Lib.hid (show ((opInfo op).getD zeroI).toV = .agg #[.string nm, .int .i64 7, .string p, .string r] by rw [hi]; rfl)
  have HME := Lib.hid hme
  clear A hE hi hwf hcn sp sr hme
  go_enter Tryz.func74, Tryz.ntmps74
  go_wp2_with fail
  obtain ⟨W0, hW0⟩ : ∃ W0, w.alloc (.cells #[.int .i64 op, .int .i64 a, .int .i64 b, lv] 29) = W0 := ⟨_, rfl⟩
  rw [hW0]
  have bx0 := boxed_ins hW0
  clear hW0
  refine (HCT.out W0).mono ?_
  rintro e W1 ⟨rfl, b1⟩
  have BX := Lib.hid (bx0.later b1)
  clear bx0 b1
  obtain ⟨q0, q1, q2, q3⟩ : _ ∧ _ ∧ _ ∧ _ := ⟨BX.out.q0, BX.out.q1, BX.out.q2, BX.out.q3⟩
  have C1 := Lib.hid (Chain.start (H.out.later BX.out.below) (Below.refl _ _))
  have HB1 := Lib.hid (show Below B w W1 from BX.out.below.mono hB)
  obtain ⟨_, _, _, _, _, _, c9⟩ := C1.out.here.fixed
  have hbl := C1.out.here.lt
  have hmb := C1.out.here.mlt
  have hq := BX.out.size
  obtain ⟨n, D, hm, hD, hnk, hlook⟩ := infos_look C1.out.here.inf op HWF.out
  have ha2 : (W1.alloc (.cells #[.string ⟨#[]⟩, .int .i64 0, .string ⟨#[]⟩, .string ⟨#[]⟩] 177)).drew.heap[E.mb]? = W1.heap[E.mb]? := Below.heap_alloc _ _ _ hmb
  rcases hlook with ⟨_, hlook⟩ | ⟨_, hlook⟩
  · have hrun1 := hlook W1.drew rfl
    have hrun2 := hlook _ ha2
    rw [HTV.out] at hrun1 hrun2
    clear hlook ha2 hm hD hnk
    go_wp2_with fail
    go_region
    all_goals
      go_upto_region 7 with fail
      obtain ⟨W4, hW4⟩ : ∃ W4, (W1.alloc (.cells #[.string nm, .int .i64 7, .string p, .string r] 177)).drew = W4 := ⟨_, rfl⟩
      rw [hW4]
      have b4 : Below W1.heap.size W1 W4 := by rw [← hW4]; exact ((Below.refl _ _).alloc (Nat.le_refl _) _).drew
      have I4 := Lib.hid (show InfoAt W4 W1.heap.size nm 7 p r from infoAt_new (by rw [← hW4]; exact heap_alloc_new W1 _))
      have BX4 := Lib.hid (BX.out.later b4)
      have HB4 := Lib.hid (show B ≤ W4.heap.size from Nat.le_trans (Nat.le_trans hB (Nat.le_of_lt BX.out.size)) b4.size)
      have C5 := Lib.hid (Chain.start ((C1.out.here.later b4).mono (Nat.le_succ k)) (Below.refl W4.heap.size W4))
      have HB14 := Lib.hid b4
      clear hW4 b4 hrun1 hrun2 q0 q1 q2 q3 c9
      have HXB := Lib.hid (show ¬ x.foot cb E W1.heap.size from foot_new C1.out.here)
      obtain ⟨q0, q1, q2, q3⟩ := BX4.out.chain HX.out C5.out
      obtain ⟨i0, i1, i2, i3⟩ := I4.out.chain HXB.out C5.out
      obtain ⟨_, _, cme, _, _, _, _⟩ := C5.out.here.fixed
      rw [HME.out] at cme
      go_wp2_with fail
      refine (want_any true _ B cb E _ _ _ C5.out.here).mono ?_
      rintro e W6 ⟨rfl, u6⟩
      obtain ⟨x6, ch6⟩ := C5.out.next u6
      have C6 := Lib.hid ch6
      clear u6 ch6 q0 q1 q2 q3 i0 i1 i2 i3 cme
      obtain ⟨q0, q1, q2, q3⟩ := BX4.out.chain HX.out C6.out
      obtain ⟨i0, i1, i2, i3⟩ := I4.out.chain HXB.out C6.out
      go_wp2_with fail
      have HWT := Lib.hid (want_any true W6.drew B cb E x6 _ _ (C6.out.here.later (Below.refl _ _).drew))
      obtain ⟨F, hF⟩ : ∃ F, F = @wpStill Tryz.prog := ⟨_, rfl⟩
      have hskip := still_skips hF
      refine wp_region_still_tail 12 (by kernel_rfl) (by kernel_rfl) ?_
      simp only [List.take_succ_cons, List.take_zero, List.drop_succ_cons, List.drop_zero]
      iterate 5 still_step
      rw [← hF]
      refine hskip _ _ _ _ _ _ (by kernel_rfl) (by kernel_rfl) ?_
      refine hskip _ _ _ _ _ _ (by kernel_rfl) (by kernel_rfl) ?_
      refine hskip _ _ _ _ _ _ (by kernel_rfl) (by kernel_rfl) ?_
      refine hskip _ _ _ _ _ _ (by kernel_rfl) (by kernel_rfl) ?_
      refine hskip _ _ _ _ _ _ (by kernel_rfl) (by kernel_rfl) ?_
      refine hskip _ _ _ _ _ _ (by kernel_rfl) (by kernel_rfl) ?_
      rw [hF]
      clear hskip hF F
      still_step
      refine wpStill_nil ?_
      change wpList _ _ _ _ _ W6.drew
      go_wp2_with fail
      refine HWT.out.mono ?_
      rintro e W7 ⟨rfl, u7⟩
      obtain ⟨x7, ch7⟩ := (C6.out.later (Below.refl _ _).drew).next u7
      have C7 := Lib.hid ch7
      clear u7 ch7
      obtain ⟨i0, i1, i2, i3⟩ := I4.out.chain HXB.out C7.out
      have F7 := Lib.hid ((HF.out.want true).want true)
      go_wp2_with fail
      refine (take_any p _ B cb E _ _ _ C7.out.here l0 f F7.out.frames F7.out.height F7.out.stack F7.out.many (by omega)).mono ?_
      rintro e W8 ⟨rfl, u8⟩
      obtain ⟨x8, ch8⟩ := C7.out.next u8
      have C8 := Lib.hid ch8
      have F8 := Lib.hid (F7.out.take p.data.toList)
      clear u8 ch8 i0 i1 i2 i3
      obtain ⟨i0, i1, i2, i3⟩ := I4.out.chain HXB.out C8.out
      go_wp2_with fail
      refine (put_any r _ B cb E _ _ _ C8.out.here (C8.out.size HB4.out) F8.out.stack (by omega)).mono ?_
      rintro e W9 ⟨rfl, u9⟩
      obtain ⟨x9, ch9⟩ := C8.out.next u9
      have C9 := Lib.hid ch9
      clear u9 ch9 i0 i1 i2 i3
      go_wp2_with fail
      go_end0
      exact ⟨rfl, C9.out.upd.after BX4.out.below⟩
  · have hrun1 := hlook W1.drew rfl
    have hrun2 := hlook _ ha2
    change _ = Result.ok (Value.tuple #[.agg #[.string ⟨#[]⟩, .int .i64 0, .string ⟨#[]⟩, .string ⟨#[]⟩], .bool false]) _ at hrun1 hrun2
    have HM := Lib.hid hm
    have HD := Lib.hid hD
    have HNK := Lib.hid hnk
    clear hlook ha2 hm hD hnk
    go_wp2_with fail
    go_region
    all_goals
      go_wp2_with fail
      obtain ⟨W2, hW2⟩ : ∃ W2, (W1.alloc (.cells #[.string ⟨#[]⟩, .int .i64 0, .string ⟨#[]⟩, .string ⟨#[]⟩] 177)).drew = W2 := ⟨_, rfl⟩
      rw [hW2]
      have b2 : Below W1.heap.size W1 W2 := by rw [← hW2]; exact ((Below.refl _ _).alloc (Nat.le_refl _) _).drew
      have hz2 : W2.heap[W1.heap.size]? = some (.cells #[.string ⟨#[]⟩, .int .i64 0, .string ⟨#[]⟩, .string ⟨#[]⟩] 177 (0, 0)) := by rw [← hW2]; exact heap_alloc_new W1 _
      have B2 := Lib.hid b2
      have Z2 := Lib.hid hz2
      clear hW2 b2 hz2 hrun1 hrun2 q0 q1 q2 q3 c9
      refine (HOF.out W2 (HB1.out.trans (B2.out.mono (Nat.le_trans hB (Nat.le_of_lt BX.out.size))))).mono ?_
      rintro e W3 ⟨rfl, b3⟩
      have hz3 : W3.heap[W1.heap.size]? = some (.cells #[.string ⟨#[]⟩, .int .i64 0, .string ⟨#[]⟩, .string ⟨#[]⟩] 177 (0, 0)) := (b3.block _ (Array.getElem?_eq_some_iff.1 Z2.out).1).trans Z2.out
      have z0 : W3.cell? ⟨W1.heap.size, 0, none⟩ = some (.string ⟨#[]⟩) := (cell_of_row W3 _ _ _ _ _ hz3).trans rfl
      have z1 : W3.cell? ⟨W1.heap.size, 1, none⟩ = some (.int .i64 0) := (cell_of_row W3 _ _ _ _ _ hz3).trans rfl
      have z2 : W3.cell? ⟨W1.heap.size, 2, none⟩ = some (.string ⟨#[]⟩) := (cell_of_row W3 _ _ _ _ _ hz3).trans rfl
      have z3 : W3.cell? ⟨W1.heap.size, 3, none⟩ = some (.string ⟨#[]⟩) := (cell_of_row W3 _ _ _ _ _ hz3).trans rfl
      have zf : ∀ j, W3.frozen? ⟨W1.heap.size, j, none⟩ = false := fun j => frozen_of_row W3 _ j _ _ hz3
      have b13 := B2.out.trans (b3.mono B2.out.size)
      have B13 := Lib.hid b13
      have Z3 := Lib.hid hz3
      clear b3 hz3 b13
      go_upto_region 6 with fail
      obtain ⟨W4, hW4⟩ : ∃ W4, (((W3.setCell ⟨W1.heap.size, 0, none⟩ (.string nm)).setCell ⟨W1.heap.size, 1, none⟩ (.int .i64 7)).setCell ⟨W1.heap.size, 2, none⟩ (.string p)).setCell ⟨W1.heap.size, 3, none⟩ (.string r) = W4 := ⟨_, rfl⟩
      rw [hW4]
      have b4 : Below W1.heap.size W1 W4 := by rw [← hW4]; exact (((B13.out.setCell (Nat.le_refl _) _).setCell (Nat.le_refl _) _).setCell (Nat.le_refl _) _).setCell (Nat.le_refl _) _
      have hi4 : W4.heap[W1.heap.size]? = some (.cells #[.string nm, .int .i64 7, .string p, .string r] 177 (0, 0)) := by
        rw [← hW4, box_set (box_set (box_set (box_set Z3.out 0 _) 1 _) 2 _) 3 _]
        rfl
      have i4 : InfoAt W4 W1.heap.size nm 7 p r := infoAt_new hi4
      have I4 := Lib.hid i4
      have BX4 := Lib.hid (BX.out.later b4)
      have HB4 := Lib.hid (show B ≤ W4.heap.size from Nat.le_trans (Nat.le_trans hB (Nat.le_of_lt BX.out.size)) b4.size)
      have C4 := Lib.hid (C1.out.here.later b4)
      have HM4 := Lib.hid (ownsMap_of HM.out (b4.block _ hmb))
      have HB14 := Lib.hid b4
      clear hW4 b4 z0 z1 z2 z3 zf hi4
      obtain ⟨i0, i1, i2, i3⟩ := i4
      obtain ⟨q0, q1, q2, q3⟩ : _ ∧ _ ∧ _ ∧ _ := ⟨BX4.out.q0, BX4.out.q1, BX4.out.q2, BX4.out.q3⟩
      obtain ⟨_, _, _, _, _, _, c9⟩ := C4.out.fixed
      obtain ⟨W5, hrun, hown, hgr⟩ := HM4.out.drew.update (val := .agg #[.string nm, .int .i64 7, .string p, .string r]) keyed_int Tryz.underlying154 (Nat.lt_of_le_of_lt HNK.out hk) (key_int op HWF.out) rfl
      have hok := infos_put HD.out op
      rw [HTV.out] at hok
      have hC5 := (Chain.start C4.out (Below.refl W4.heap.size W4).drew).next ((C4.out.later (Below.refl _ _).drew).setInf hgr hown hok (Nat.succ_le_succ HNK.out))
      have HC5 := Lib.hid hC5
      clear hown hgr hok hC5
      go_wp2_with fail
      go_still_tail 7, (by kernel_rfl)
      change wpList _ _ _ _ _ W4.drew
      go_upto_region 7 with fail
      clear hrun q0 q1 q2 q3 c9 i0 i1 i2 i3
      obtain ⟨x5, ch5⟩ := HC5.out
      have C5 := Lib.hid ch5
      clear ch5
      have HXB := Lib.hid (show ¬ x.foot cb E W1.heap.size from foot_new C1.out.here)
      obtain ⟨q0, q1, q2, q3⟩ := BX4.out.chain HX.out C5.out
      obtain ⟨i0, i1, i2, i3⟩ := I4.out.chain HXB.out C5.out
      obtain ⟨_, _, cme, _, _, _, _⟩ := C5.out.here.fixed
      rw [HME.out] at cme
      go_wp2_with fail
      refine (want_any true _ B cb E _ _ _ C5.out.here).mono ?_
      rintro e W6 ⟨rfl, u6⟩
      obtain ⟨x6, ch6⟩ := C5.out.next u6
      have C6 := Lib.hid ch6
      clear u6 ch6 q0 q1 q2 q3 i0 i1 i2 i3 cme
      obtain ⟨q0, q1, q2, q3⟩ := BX4.out.chain HX.out C6.out
      obtain ⟨i0, i1, i2, i3⟩ := I4.out.chain HXB.out C6.out
      go_wp2_with fail
      have HWT := Lib.hid (want_any true W6.drew B cb E x6 _ _ (C6.out.here.later (Below.refl _ _).drew))
      obtain ⟨F, hF⟩ : ∃ F, F = @wpStill Tryz.prog := ⟨_, rfl⟩
      have hskip := still_skips hF
      refine wp_region_still_tail 12 (by kernel_rfl) (by kernel_rfl) ?_
      simp only [List.take_succ_cons, List.take_zero, List.drop_succ_cons, List.drop_zero]
      iterate 5 still_step
      rw [← hF]
      refine hskip _ _ _ _ _ _ (by kernel_rfl) (by kernel_rfl) ?_
      refine hskip _ _ _ _ _ _ (by kernel_rfl) (by kernel_rfl) ?_
      refine hskip _ _ _ _ _ _ (by kernel_rfl) (by kernel_rfl) ?_
      refine hskip _ _ _ _ _ _ (by kernel_rfl) (by kernel_rfl) ?_
      refine hskip _ _ _ _ _ _ (by kernel_rfl) (by kernel_rfl) ?_
      refine hskip _ _ _ _ _ _ (by kernel_rfl) (by kernel_rfl) ?_
      rw [hF]
      clear hskip hF F
      still_step
      refine wpStill_nil ?_
      change wpList _ _ _ _ _ W6.drew
      go_wp2_with fail
      refine HWT.out.mono ?_
      rintro e W7 ⟨rfl, u7⟩
      obtain ⟨x7, ch7⟩ := (C6.out.later (Below.refl _ _).drew).next u7
      have C7 := Lib.hid ch7
      clear u7 ch7
      obtain ⟨i0, i1, i2, i3⟩ := I4.out.chain HXB.out C7.out
      have F7 := Lib.hid ((HF.out.want true).want true)
      go_wp2_with fail
      refine (take_any p _ B cb E _ _ _ C7.out.here l0 f F7.out.frames F7.out.height F7.out.stack F7.out.many (by omega)).mono ?_
      rintro e W8 ⟨rfl, u8⟩
      obtain ⟨x8, ch8⟩ := C7.out.next u8
      have C8 := Lib.hid ch8
      have F8 := Lib.hid (F7.out.take p.data.toList)
      clear u8 ch8 i0 i1 i2 i3
      obtain ⟨i0, i1, i2, i3⟩ := I4.out.chain HXB.out C8.out
      go_wp2_with fail
      refine (put_any r _ B cb E _ _ _ C8.out.here (C8.out.size HB4.out) F8.out.stack (by omega)).mono ?_
      rintro e W9 ⟨rfl, u9⟩
      obtain ⟨x9, ch9⟩ := C8.out.next u9
      have C9 := Lib.hid ch9
      clear u9 ch9 i0 i1 i2 i3
      go_wp2_with fail
      go_end0
      exact ⟨rfl, C9.out.upd.after BX4.out.below⟩
set_option maxRecDepth 100000 in
set_option maxHeartbeats 8000000 in
theorem last_n0 (v : Vn) (op a b : Int) (lv : Value) (zs : List Int) (nm : ByteArray) (p r : ByteArray) (w : World) (B cb : Nat) (E : Ce) (x : Cx) (c : Ck) (k : Nat) (l0 : List Fr) (f : Fr) (A : Ask w B cb E x c k v l0 f) (hi : opInfo op = some ⟨nm, 0, p, r⟩) (hwf : (Lit.int .i64 op).wf = true) (hcn : controlC v ⟨op, a, b, zs⟩ c = none)
    (g16 : (op == 16) = false) (g26 : (op == 26) = false) (g27 : (op == 27) = false) (g32 : (op == 32) = false) (g33 : (op == 33) = false) (g34 : (op == 34) = false) (g35 : (op == 35) = false) (g36 : (op == 36) = false)
    (hE : ∀ W, Below B w W → OpEnv W) (me : Option Addr) (cap : Nat) (hme : E.me = .slice me 0 cap) (hk : k < maxLen) :
    Calls Tryz.prog 74 #[.pointer (some ⟨cb, 0, none⟩), .agg #[.int .i64 op, .int .i64 a, .int .i64 b, lv]] w fun e w' => e = .returned (.tuple #[]) ∧ Upd w B cb E x (putC r.data.toList (takeC p.data.toList (wantC (wantC c true) true))) (k + 1) w' := by
  obtain ⟨sp, sr⟩ := info_small hi
  have sp' : p.size ≤ 2 := sp
  have sr' : r.size ≤ 1 := sr
  have HF := Lib.hid A.few
  have H := Lib.hid A.here
  have HX := Lib.hid (foot_new A.here)
  have hB := A.low
  have HCT := Lib.hid (fun (W : World) => control_nope ⟨op, a, b, zs⟩ lv W cb (v := v) (c := c) hcn)
  have HE := Lib.hid hE
  have HWF := Lib.hid hwf
  have HOF := Lib.hid (fun (W : World) (hb : Below B w W) => of_lit op W (hE W hb) hwf nm p r 0 true (by rw [hi]; rfl) (by rw [hi]; rfl))
  have HTV := Lib.hid (show ((opInfo op).getD zeroI).toV = .agg #[.string nm, .int .i64 0, .string p, .string r] by rw [hi]; rfl)
  have HME := Lib.hid hme
  clear A hE hi hwf hcn sp sr hme
  go_enter Tryz.func74, Tryz.ntmps74
  go_wp2_with fail
  obtain ⟨W0, hW0⟩ : ∃ W0, w.alloc (.cells #[.int .i64 op, .int .i64 a, .int .i64 b, lv] 29) = W0 := ⟨_, rfl⟩
  rw [hW0]
  have bx0 := boxed_ins hW0
  clear hW0
  refine (HCT.out W0).mono ?_
  rintro e W1 ⟨rfl, b1⟩
  have BX := Lib.hid (bx0.later b1)
  clear bx0 b1
  obtain ⟨q0, q1, q2, q3⟩ : _ ∧ _ ∧ _ ∧ _ := ⟨BX.out.q0, BX.out.q1, BX.out.q2, BX.out.q3⟩
  have C1 := Lib.hid (Chain.start (H.out.later BX.out.below) (Below.refl _ _))
  have HB1 := Lib.hid (show Below B w W1 from BX.out.below.mono hB)
  obtain ⟨_, _, _, _, _, _, c9⟩ := C1.out.here.fixed
  have hbl := C1.out.here.lt
  have hmb := C1.out.here.mlt
  have hq := BX.out.size
  obtain ⟨n, D, hm, hD, hnk, hlook⟩ := infos_look C1.out.here.inf op HWF.out
  have ha2 : (W1.alloc (.cells #[.string ⟨#[]⟩, .int .i64 0, .string ⟨#[]⟩, .string ⟨#[]⟩] 177)).drew.heap[E.mb]? = W1.heap[E.mb]? := Below.heap_alloc _ _ _ hmb
  rcases hlook with ⟨_, hlook⟩ | ⟨_, hlook⟩
  · have hrun1 := hlook W1.drew rfl
    have hrun2 := hlook _ ha2
    rw [HTV.out] at hrun1 hrun2
    clear hlook ha2 hm hD hnk
    go_wp2_with fail
    go_region
    all_goals
      go_upto_region 7 with fail
      obtain ⟨W4, hW4⟩ : ∃ W4, (W1.alloc (.cells #[.string nm, .int .i64 0, .string p, .string r] 177)).drew = W4 := ⟨_, rfl⟩
      rw [hW4]
      have b4 : Below W1.heap.size W1 W4 := by rw [← hW4]; exact ((Below.refl _ _).alloc (Nat.le_refl _) _).drew
      have I4 := Lib.hid (show InfoAt W4 W1.heap.size nm 0 p r from infoAt_new (by rw [← hW4]; exact heap_alloc_new W1 _))
      have BX4 := Lib.hid (BX.out.later b4)
      have HB4 := Lib.hid (show B ≤ W4.heap.size from Nat.le_trans (Nat.le_trans hB (Nat.le_of_lt BX.out.size)) b4.size)
      have C5 := Lib.hid (Chain.start ((C1.out.here.later b4).mono (Nat.le_succ k)) (Below.refl W4.heap.size W4))
      have HB14 := Lib.hid b4
      clear hW4 b4 hrun1 hrun2 q0 q1 q2 q3 c9
      have HXB := Lib.hid (show ¬ x.foot cb E W1.heap.size from foot_new C1.out.here)
      obtain ⟨q0, q1, q2, q3⟩ := BX4.out.chain HX.out C5.out
      obtain ⟨i0, i1, i2, i3⟩ := I4.out.chain HXB.out C5.out
      obtain ⟨_, _, cme, _, _, _, _⟩ := C5.out.here.fixed
      rw [HME.out] at cme
      go_wp2_with fail
      refine (want_any true _ B cb E _ _ _ C5.out.here).mono ?_
      rintro e W6 ⟨rfl, u6⟩
      obtain ⟨x6, ch6⟩ := C5.out.next u6
      have C6 := Lib.hid ch6
      clear u6 ch6 q0 q1 q2 q3 i0 i1 i2 i3 cme
      obtain ⟨q0, q1, q2, q3⟩ := BX4.out.chain HX.out C6.out
      obtain ⟨i0, i1, i2, i3⟩ := I4.out.chain HXB.out C6.out
      go_wp2_with fail
      have HWT := Lib.hid (want_any true W6.drew B cb E x6 _ _ (C6.out.here.later (Below.refl _ _).drew))
      obtain ⟨F, hF⟩ : ∃ F, F = @wpStill Tryz.prog := ⟨_, rfl⟩
      have hskip := still_skips hF
      refine wp_region_still_tail 12 (by kernel_rfl) (by kernel_rfl) ?_
      simp only [List.take_succ_cons, List.take_zero, List.drop_succ_cons, List.drop_zero]
      iterate 5 still_step
      rw [← hF]
      refine hskip _ _ _ _ _ _ (by kernel_rfl) (by kernel_rfl) ?_
      refine hskip _ _ _ _ _ _ (by kernel_rfl) (by kernel_rfl) ?_
      refine hskip _ _ _ _ _ _ (by kernel_rfl) (by kernel_rfl) ?_
      refine hskip _ _ _ _ _ _ (by kernel_rfl) (by kernel_rfl) ?_
      refine hskip _ _ _ _ _ _ (by kernel_rfl) (by kernel_rfl) ?_
      refine hskip _ _ _ _ _ _ (by kernel_rfl) (by kernel_rfl) ?_
      rw [hF]
      clear hskip hF F
      still_step
      refine wpStill_nil ?_
      change wpList _ _ _ _ _ W6.drew
      go_wp2_with fail
      refine HWT.out.mono ?_
      rintro e W7 ⟨rfl, u7⟩
      obtain ⟨x7, ch7⟩ := (C6.out.later (Below.refl _ _).drew).next u7
      have C7 := Lib.hid ch7
      clear u7 ch7
      obtain ⟨i0, i1, i2, i3⟩ := I4.out.chain HXB.out C7.out
      have F7 := Lib.hid ((HF.out.want true).want true)
      go_wp2_with fail
      refine (take_any p _ B cb E _ _ _ C7.out.here l0 f F7.out.frames F7.out.height F7.out.stack F7.out.many (by omega)).mono ?_
      rintro e W8 ⟨rfl, u8⟩
      obtain ⟨x8, ch8⟩ := C7.out.next u8
      have C8 := Lib.hid ch8
      have F8 := Lib.hid (F7.out.take p.data.toList)
      clear u8 ch8 i0 i1 i2 i3
      obtain ⟨i0, i1, i2, i3⟩ := I4.out.chain HXB.out C8.out
      go_wp2_with fail
      refine (put_any r _ B cb E _ _ _ C8.out.here (C8.out.size HB4.out) F8.out.stack (by omega)).mono ?_
      rintro e W9 ⟨rfl, u9⟩
      obtain ⟨x9, ch9⟩ := C8.out.next u9
      have C9 := Lib.hid ch9
      clear u9 ch9 i0 i1 i2 i3
      go_wp2_with fail
      go_end0
      exact ⟨rfl, C9.out.upd.after BX4.out.below⟩
  · have hrun1 := hlook W1.drew rfl
    have hrun2 := hlook _ ha2
    change _ = Result.ok (Value.tuple #[.agg #[.string ⟨#[]⟩, .int .i64 0, .string ⟨#[]⟩, .string ⟨#[]⟩], .bool false]) _ at hrun1 hrun2
    have HM := Lib.hid hm
    have HD := Lib.hid hD
    have HNK := Lib.hid hnk
    clear hlook ha2 hm hD hnk
    go_wp2_with fail
    go_region
    all_goals
      go_wp2_with fail
      obtain ⟨W2, hW2⟩ : ∃ W2, (W1.alloc (.cells #[.string ⟨#[]⟩, .int .i64 0, .string ⟨#[]⟩, .string ⟨#[]⟩] 177)).drew = W2 := ⟨_, rfl⟩
      rw [hW2]
      have b2 : Below W1.heap.size W1 W2 := by rw [← hW2]; exact ((Below.refl _ _).alloc (Nat.le_refl _) _).drew
      have hz2 : W2.heap[W1.heap.size]? = some (.cells #[.string ⟨#[]⟩, .int .i64 0, .string ⟨#[]⟩, .string ⟨#[]⟩] 177 (0, 0)) := by rw [← hW2]; exact heap_alloc_new W1 _
      have B2 := Lib.hid b2
      have Z2 := Lib.hid hz2
      clear hW2 b2 hz2 hrun1 hrun2 q0 q1 q2 q3 c9
      refine (HOF.out W2 (HB1.out.trans (B2.out.mono (Nat.le_trans hB (Nat.le_of_lt BX.out.size))))).mono ?_
      rintro e W3 ⟨rfl, b3⟩
      have hz3 : W3.heap[W1.heap.size]? = some (.cells #[.string ⟨#[]⟩, .int .i64 0, .string ⟨#[]⟩, .string ⟨#[]⟩] 177 (0, 0)) := (b3.block _ (Array.getElem?_eq_some_iff.1 Z2.out).1).trans Z2.out
      have z0 : W3.cell? ⟨W1.heap.size, 0, none⟩ = some (.string ⟨#[]⟩) := (cell_of_row W3 _ _ _ _ _ hz3).trans rfl
      have z1 : W3.cell? ⟨W1.heap.size, 1, none⟩ = some (.int .i64 0) := (cell_of_row W3 _ _ _ _ _ hz3).trans rfl
      have z2 : W3.cell? ⟨W1.heap.size, 2, none⟩ = some (.string ⟨#[]⟩) := (cell_of_row W3 _ _ _ _ _ hz3).trans rfl
      have z3 : W3.cell? ⟨W1.heap.size, 3, none⟩ = some (.string ⟨#[]⟩) := (cell_of_row W3 _ _ _ _ _ hz3).trans rfl
      have zf : ∀ j, W3.frozen? ⟨W1.heap.size, j, none⟩ = false := fun j => frozen_of_row W3 _ j _ _ hz3
      have b13 := B2.out.trans (b3.mono B2.out.size)
      have B13 := Lib.hid b13
      have Z3 := Lib.hid hz3
      clear b3 hz3 b13
      go_upto_region 6 with fail
      obtain ⟨W4, hW4⟩ : ∃ W4, (((W3.setCell ⟨W1.heap.size, 0, none⟩ (.string nm)).setCell ⟨W1.heap.size, 1, none⟩ (.int .i64 0)).setCell ⟨W1.heap.size, 2, none⟩ (.string p)).setCell ⟨W1.heap.size, 3, none⟩ (.string r) = W4 := ⟨_, rfl⟩
      rw [hW4]
      have b4 : Below W1.heap.size W1 W4 := by rw [← hW4]; exact (((B13.out.setCell (Nat.le_refl _) _).setCell (Nat.le_refl _) _).setCell (Nat.le_refl _) _).setCell (Nat.le_refl _) _
      have hi4 : W4.heap[W1.heap.size]? = some (.cells #[.string nm, .int .i64 0, .string p, .string r] 177 (0, 0)) := by
        rw [← hW4, box_set (box_set (box_set (box_set Z3.out 0 _) 1 _) 2 _) 3 _]
        rfl
      have i4 : InfoAt W4 W1.heap.size nm 0 p r := infoAt_new hi4
      have I4 := Lib.hid i4
      have BX4 := Lib.hid (BX.out.later b4)
      have HB4 := Lib.hid (show B ≤ W4.heap.size from Nat.le_trans (Nat.le_trans hB (Nat.le_of_lt BX.out.size)) b4.size)
      have C4 := Lib.hid (C1.out.here.later b4)
      have HM4 := Lib.hid (ownsMap_of HM.out (b4.block _ hmb))
      have HB14 := Lib.hid b4
      clear hW4 b4 z0 z1 z2 z3 zf hi4
      obtain ⟨i0, i1, i2, i3⟩ := i4
      obtain ⟨q0, q1, q2, q3⟩ : _ ∧ _ ∧ _ ∧ _ := ⟨BX4.out.q0, BX4.out.q1, BX4.out.q2, BX4.out.q3⟩
      obtain ⟨_, _, _, _, _, _, c9⟩ := C4.out.fixed
      obtain ⟨W5, hrun, hown, hgr⟩ := HM4.out.drew.update (val := .agg #[.string nm, .int .i64 0, .string p, .string r]) keyed_int Tryz.underlying154 (Nat.lt_of_le_of_lt HNK.out hk) (key_int op HWF.out) rfl
      have hok := infos_put HD.out op
      rw [HTV.out] at hok
      have hC5 := (Chain.start C4.out (Below.refl W4.heap.size W4).drew).next ((C4.out.later (Below.refl _ _).drew).setInf hgr hown hok (Nat.succ_le_succ HNK.out))
      have HC5 := Lib.hid hC5
      clear hown hgr hok hC5
      go_wp2_with fail
      go_still_tail 7, (by kernel_rfl)
      change wpList _ _ _ _ _ W4.drew
      go_upto_region 7 with fail
      clear hrun q0 q1 q2 q3 c9 i0 i1 i2 i3
      obtain ⟨x5, ch5⟩ := HC5.out
      have C5 := Lib.hid ch5
      clear ch5
      have HXB := Lib.hid (show ¬ x.foot cb E W1.heap.size from foot_new C1.out.here)
      obtain ⟨q0, q1, q2, q3⟩ := BX4.out.chain HX.out C5.out
      obtain ⟨i0, i1, i2, i3⟩ := I4.out.chain HXB.out C5.out
      obtain ⟨_, _, cme, _, _, _, _⟩ := C5.out.here.fixed
      rw [HME.out] at cme
      go_wp2_with fail
      refine (want_any true _ B cb E _ _ _ C5.out.here).mono ?_
      rintro e W6 ⟨rfl, u6⟩
      obtain ⟨x6, ch6⟩ := C5.out.next u6
      have C6 := Lib.hid ch6
      clear u6 ch6 q0 q1 q2 q3 i0 i1 i2 i3 cme
      obtain ⟨q0, q1, q2, q3⟩ := BX4.out.chain HX.out C6.out
      obtain ⟨i0, i1, i2, i3⟩ := I4.out.chain HXB.out C6.out
      go_wp2_with fail
      have HWT := Lib.hid (want_any true W6.drew B cb E x6 _ _ (C6.out.here.later (Below.refl _ _).drew))
      obtain ⟨F, hF⟩ : ∃ F, F = @wpStill Tryz.prog := ⟨_, rfl⟩
      have hskip := still_skips hF
      refine wp_region_still_tail 12 (by kernel_rfl) (by kernel_rfl) ?_
      simp only [List.take_succ_cons, List.take_zero, List.drop_succ_cons, List.drop_zero]
      iterate 5 still_step
      rw [← hF]
      refine hskip _ _ _ _ _ _ (by kernel_rfl) (by kernel_rfl) ?_
      refine hskip _ _ _ _ _ _ (by kernel_rfl) (by kernel_rfl) ?_
      refine hskip _ _ _ _ _ _ (by kernel_rfl) (by kernel_rfl) ?_
      refine hskip _ _ _ _ _ _ (by kernel_rfl) (by kernel_rfl) ?_
      refine hskip _ _ _ _ _ _ (by kernel_rfl) (by kernel_rfl) ?_
      refine hskip _ _ _ _ _ _ (by kernel_rfl) (by kernel_rfl) ?_
      rw [hF]
      clear hskip hF F
      still_step
      refine wpStill_nil ?_
      change wpList _ _ _ _ _ W6.drew
      go_wp2_with fail
      refine HWT.out.mono ?_
      rintro e W7 ⟨rfl, u7⟩
      obtain ⟨x7, ch7⟩ := (C6.out.later (Below.refl _ _).drew).next u7
      have C7 := Lib.hid ch7
      clear u7 ch7
      obtain ⟨i0, i1, i2, i3⟩ := I4.out.chain HXB.out C7.out
      have F7 := Lib.hid ((HF.out.want true).want true)
      go_wp2_with fail
      refine (take_any p _ B cb E _ _ _ C7.out.here l0 f F7.out.frames F7.out.height F7.out.stack F7.out.many (by omega)).mono ?_
      rintro e W8 ⟨rfl, u8⟩
      obtain ⟨x8, ch8⟩ := C7.out.next u8
      have C8 := Lib.hid ch8
      have F8 := Lib.hid (F7.out.take p.data.toList)
      clear u8 ch8 i0 i1 i2 i3
      obtain ⟨i0, i1, i2, i3⟩ := I4.out.chain HXB.out C8.out
      go_wp2_with fail
      refine (put_any r _ B cb E _ _ _ C8.out.here (C8.out.size HB4.out) F8.out.stack (by omega)).mono ?_
      rintro e W9 ⟨rfl, u9⟩
      obtain ⟨x9, ch9⟩ := C8.out.next u9
      have C9 := Lib.hid ch9
      clear u9 ch9 i0 i1 i2 i3
      go_wp2_with fail
      go_end0
      exact ⟨rfl, C9.out.upd.after BX4.out.below⟩
set_option maxRecDepth 100000 in
set_option maxHeartbeats 8000000 in
theorem last_n7 (v : Vn) (op a b : Int) (lv : Value) (zs : List Int) (nm : ByteArray) (p r : ByteArray) (w : World) (B cb : Nat) (E : Ce) (x : Cx) (c : Ck) (k : Nat) (l0 : List Fr) (f : Fr) (A : Ask w B cb E x c k v l0 f) (hi : opInfo op = some ⟨nm, 7, p, r⟩) (hwf : (Lit.int .i64 op).wf = true) (hcn : controlC v ⟨op, a, b, zs⟩ c = none)
    (g16 : (op == 16) = false) (g26 : (op == 26) = false) (g27 : (op == 27) = false) (g32 : (op == 32) = false) (g33 : (op == 33) = false) (g34 : (op == 34) = false) (g35 : (op == 35) = false) (g36 : (op == 36) = false)
    (hE : ∀ W, Below B w W → OpEnv W) (me : Option Addr) (cap : Nat) (hme : E.me = .slice me 0 cap) (hk : k < maxLen) :
    Calls Tryz.prog 74 #[.pointer (some ⟨cb, 0, none⟩), .agg #[.int .i64 op, .int .i64 a, .int .i64 b, lv]] w fun e w' => e = .returned (.tuple #[]) ∧ Upd w B cb E x (putC r.data.toList (takeC p.data.toList (wantC (wantC c true) true))) (k + 1) w' := by
  obtain ⟨sp, sr⟩ := info_small hi
  have sp' : p.size ≤ 2 := sp
  have sr' : r.size ≤ 1 := sr
  have HF := Lib.hid A.few
  have H := Lib.hid A.here
  have HX := Lib.hid (foot_new A.here)
  have hB := A.low
  have HCT := Lib.hid (fun (W : World) => control_nope ⟨op, a, b, zs⟩ lv W cb (v := v) (c := c) hcn)
  have HE := Lib.hid hE
  have HWF := Lib.hid hwf
  have HOF := Lib.hid (fun (W : World) (hb : Below B w W) => of_lit op W (hE W hb) hwf nm p r 7 true (by rw [hi]; rfl) (by rw [hi]; rfl))
  have HTV := Lib.hid (show ((opInfo op).getD zeroI).toV = .agg #[.string nm, .int .i64 7, .string p, .string r] by rw [hi]; rfl)
  have HME := Lib.hid hme
  clear A hE hi hwf hcn sp sr hme
  go_enter Tryz.func74, Tryz.ntmps74
  go_wp2_with fail
  obtain ⟨W0, hW0⟩ : ∃ W0, w.alloc (.cells #[.int .i64 op, .int .i64 a, .int .i64 b, lv] 29) = W0 := ⟨_, rfl⟩
  rw [hW0]
  have bx0 := boxed_ins hW0
  clear hW0
  refine (HCT.out W0).mono ?_
  rintro e W1 ⟨rfl, b1⟩
  have BX := Lib.hid (bx0.later b1)
  clear bx0 b1
  obtain ⟨q0, q1, q2, q3⟩ : _ ∧ _ ∧ _ ∧ _ := ⟨BX.out.q0, BX.out.q1, BX.out.q2, BX.out.q3⟩
  have C1 := Lib.hid (Chain.start (H.out.later BX.out.below) (Below.refl _ _))
  have HB1 := Lib.hid (show Below B w W1 from BX.out.below.mono hB)
  obtain ⟨_, _, _, _, _, _, c9⟩ := C1.out.here.fixed
  have hbl := C1.out.here.lt
  have hmb := C1.out.here.mlt
  have hq := BX.out.size
  obtain ⟨n, D, hm, hD, hnk, hlook⟩ := infos_look C1.out.here.inf op HWF.out
  have ha2 : (W1.alloc (.cells #[.string ⟨#[]⟩, .int .i64 0, .string ⟨#[]⟩, .string ⟨#[]⟩] 177)).drew.heap[E.mb]? = W1.heap[E.mb]? := Below.heap_alloc _ _ _ hmb
  rcases hlook with ⟨_, hlook⟩ | ⟨_, hlook⟩
  · have hrun1 := hlook W1.drew rfl
    have hrun2 := hlook _ ha2
    rw [HTV.out] at hrun1 hrun2
    clear hlook ha2 hm hD hnk
    go_wp2_with fail
    go_region
    all_goals
      go_upto_region 7 with fail
      obtain ⟨W4, hW4⟩ : ∃ W4, (W1.alloc (.cells #[.string nm, .int .i64 7, .string p, .string r] 177)).drew = W4 := ⟨_, rfl⟩
      rw [hW4]
      have b4 : Below W1.heap.size W1 W4 := by rw [← hW4]; exact ((Below.refl _ _).alloc (Nat.le_refl _) _).drew
      have I4 := Lib.hid (show InfoAt W4 W1.heap.size nm 7 p r from infoAt_new (by rw [← hW4]; exact heap_alloc_new W1 _))
      have BX4 := Lib.hid (BX.out.later b4)
      have HB4 := Lib.hid (show B ≤ W4.heap.size from Nat.le_trans (Nat.le_trans hB (Nat.le_of_lt BX.out.size)) b4.size)
      have C5 := Lib.hid (Chain.start ((C1.out.here.later b4).mono (Nat.le_succ k)) (Below.refl W4.heap.size W4))
      have HB14 := Lib.hid b4
      clear hW4 b4 hrun1 hrun2 q0 q1 q2 q3 c9
      have HXB := Lib.hid (show ¬ x.foot cb E W1.heap.size from foot_new C1.out.here)
      obtain ⟨q0, q1, q2, q3⟩ := BX4.out.chain HX.out C5.out
      obtain ⟨i0, i1, i2, i3⟩ := I4.out.chain HXB.out C5.out
      obtain ⟨_, _, cme, _, _, _, _⟩ := C5.out.here.fixed
      rw [HME.out] at cme
      go_wp2_with fail
      refine (want_any true _ B cb E _ _ _ C5.out.here).mono ?_
      rintro e W6 ⟨rfl, u6⟩
      obtain ⟨x6, ch6⟩ := C5.out.next u6
      have C6 := Lib.hid ch6
      clear u6 ch6 q0 q1 q2 q3 i0 i1 i2 i3 cme
      obtain ⟨q0, q1, q2, q3⟩ := BX4.out.chain HX.out C6.out
      obtain ⟨i0, i1, i2, i3⟩ := I4.out.chain HXB.out C6.out
      go_wp2_with fail
      have HWT := Lib.hid (want_any true W6.drew B cb E x6 _ _ (C6.out.here.later (Below.refl _ _).drew))
      obtain ⟨F, hF⟩ : ∃ F, F = @wpStill Tryz.prog := ⟨_, rfl⟩
      have hskip := still_skips hF
      refine wp_region_still_tail 12 (by kernel_rfl) (by kernel_rfl) ?_
      simp only [List.take_succ_cons, List.take_zero, List.drop_succ_cons, List.drop_zero]
      iterate 5 still_step
      rw [← hF]
      refine hskip _ _ _ _ _ _ (by kernel_rfl) (by kernel_rfl) ?_
      refine hskip _ _ _ _ _ _ (by kernel_rfl) (by kernel_rfl) ?_
      refine hskip _ _ _ _ _ _ (by kernel_rfl) (by kernel_rfl) ?_
      refine hskip _ _ _ _ _ _ (by kernel_rfl) (by kernel_rfl) ?_
      refine hskip _ _ _ _ _ _ (by kernel_rfl) (by kernel_rfl) ?_
      refine hskip _ _ _ _ _ _ (by kernel_rfl) (by kernel_rfl) ?_
      rw [hF]
      clear hskip hF F
      still_step
      refine wpStill_nil ?_
      change wpList _ _ _ _ _ W6.drew
      go_wp2_with fail
      refine HWT.out.mono ?_
      rintro e W7 ⟨rfl, u7⟩
      obtain ⟨x7, ch7⟩ := (C6.out.later (Below.refl _ _).drew).next u7
      have C7 := Lib.hid ch7
      clear u7 ch7
      obtain ⟨i0, i1, i2, i3⟩ := I4.out.chain HXB.out C7.out
      have F7 := Lib.hid ((HF.out.want true).want true)
      go_wp2_with fail
      refine (take_any p _ B cb E _ _ _ C7.out.here l0 f F7.out.frames F7.out.height F7.out.stack F7.out.many (by omega)).mono ?_
      rintro e W8 ⟨rfl, u8⟩
      obtain ⟨x8, ch8⟩ := C7.out.next u8
      have C8 := Lib.hid ch8
      have F8 := Lib.hid (F7.out.take p.data.toList)
      clear u8 ch8 i0 i1 i2 i3
      obtain ⟨i0, i1, i2, i3⟩ := I4.out.chain HXB.out C8.out
      go_wp2_with fail
      refine (put_any r _ B cb E _ _ _ C8.out.here (C8.out.size HB4.out) F8.out.stack (by omega)).mono ?_
      rintro e W9 ⟨rfl, u9⟩
      obtain ⟨x9, ch9⟩ := C8.out.next u9
      have C9 := Lib.hid ch9
      clear u9 ch9 i0 i1 i2 i3
      go_wp2_with fail
      go_end0
      exact ⟨rfl, C9.out.upd.after BX4.out.below⟩
  · have hrun1 := hlook W1.drew rfl
    have hrun2 := hlook _ ha2
    change _ = Result.ok (Value.tuple #[.agg #[.string ⟨#[]⟩, .int .i64 0, .string ⟨#[]⟩, .string ⟨#[]⟩], .bool false]) _ at hrun1 hrun2
    have HM := Lib.hid hm
    have HD := Lib.hid hD
    have HNK := Lib.hid hnk
    clear hlook ha2 hm hD hnk
    go_wp2_with fail
    go_region
    all_goals
      go_wp2_with fail
      obtain ⟨W2, hW2⟩ : ∃ W2, (W1.alloc (.cells #[.string ⟨#[]⟩, .int .i64 0, .string ⟨#[]⟩, .string ⟨#[]⟩] 177)).drew = W2 := ⟨_, rfl⟩
      rw [hW2]
      have b2 : Below W1.heap.size W1 W2 := by rw [← hW2]; exact ((Below.refl _ _).alloc (Nat.le_refl _) _).drew
      have hz2 : W2.heap[W1.heap.size]? = some (.cells #[.string ⟨#[]⟩, .int .i64 0, .string ⟨#[]⟩, .string ⟨#[]⟩] 177 (0, 0)) := by rw [← hW2]; exact heap_alloc_new W1 _
      have B2 := Lib.hid b2
      have Z2 := Lib.hid hz2
      clear hW2 b2 hz2 hrun1 hrun2 q0 q1 q2 q3 c9
      refine (HOF.out W2 (HB1.out.trans (B2.out.mono (Nat.le_trans hB (Nat.le_of_lt BX.out.size))))).mono ?_
      rintro e W3 ⟨rfl, b3⟩
      have hz3 : W3.heap[W1.heap.size]? = some (.cells #[.string ⟨#[]⟩, .int .i64 0, .string ⟨#[]⟩, .string ⟨#[]⟩] 177 (0, 0)) := (b3.block _ (Array.getElem?_eq_some_iff.1 Z2.out).1).trans Z2.out
      have z0 : W3.cell? ⟨W1.heap.size, 0, none⟩ = some (.string ⟨#[]⟩) := (cell_of_row W3 _ _ _ _ _ hz3).trans rfl
      have z1 : W3.cell? ⟨W1.heap.size, 1, none⟩ = some (.int .i64 0) := (cell_of_row W3 _ _ _ _ _ hz3).trans rfl
      have z2 : W3.cell? ⟨W1.heap.size, 2, none⟩ = some (.string ⟨#[]⟩) := (cell_of_row W3 _ _ _ _ _ hz3).trans rfl
      have z3 : W3.cell? ⟨W1.heap.size, 3, none⟩ = some (.string ⟨#[]⟩) := (cell_of_row W3 _ _ _ _ _ hz3).trans rfl
      have zf : ∀ j, W3.frozen? ⟨W1.heap.size, j, none⟩ = false := fun j => frozen_of_row W3 _ j _ _ hz3
      have b13 := B2.out.trans (b3.mono B2.out.size)
      have B13 := Lib.hid b13
      have Z3 := Lib.hid hz3
      clear b3 hz3 b13
      go_upto_region 6 with fail
      obtain ⟨W4, hW4⟩ : ∃ W4, (((W3.setCell ⟨W1.heap.size, 0, none⟩ (.string nm)).setCell ⟨W1.heap.size, 1, none⟩ (.int .i64 7)).setCell ⟨W1.heap.size, 2, none⟩ (.string p)).setCell ⟨W1.heap.size, 3, none⟩ (.string r) = W4 := ⟨_, rfl⟩
      rw [hW4]
      have b4 : Below W1.heap.size W1 W4 := by rw [← hW4]; exact (((B13.out.setCell (Nat.le_refl _) _).setCell (Nat.le_refl _) _).setCell (Nat.le_refl _) _).setCell (Nat.le_refl _) _
      have hi4 : W4.heap[W1.heap.size]? = some (.cells #[.string nm, .int .i64 7, .string p, .string r] 177 (0, 0)) := by
        rw [← hW4, box_set (box_set (box_set (box_set Z3.out 0 _) 1 _) 2 _) 3 _]
        rfl
      have i4 : InfoAt W4 W1.heap.size nm 7 p r := infoAt_new hi4
      have I4 := Lib.hid i4
      have BX4 := Lib.hid (BX.out.later b4)
      have HB4 := Lib.hid (show B ≤ W4.heap.size from Nat.le_trans (Nat.le_trans hB (Nat.le_of_lt BX.out.size)) b4.size)
      have C4 := Lib.hid (C1.out.here.later b4)
      have HM4 := Lib.hid (ownsMap_of HM.out (b4.block _ hmb))
      have HB14 := Lib.hid b4
      clear hW4 b4 z0 z1 z2 z3 zf hi4
      obtain ⟨i0, i1, i2, i3⟩ := i4
      obtain ⟨q0, q1, q2, q3⟩ : _ ∧ _ ∧ _ ∧ _ := ⟨BX4.out.q0, BX4.out.q1, BX4.out.q2, BX4.out.q3⟩
      obtain ⟨_, _, _, _, _, _, c9⟩ := C4.out.fixed
      obtain ⟨W5, hrun, hown, hgr⟩ := HM4.out.drew.update (val := .agg #[.string nm, .int .i64 7, .string p, .string r]) keyed_int Tryz.underlying154 (Nat.lt_of_le_of_lt HNK.out hk) (key_int op HWF.out) rfl
      have hok := infos_put HD.out op
      rw [HTV.out] at hok
      have hC5 := (Chain.start C4.out (Below.refl W4.heap.size W4).drew).next ((C4.out.later (Below.refl _ _).drew).setInf hgr hown hok (Nat.succ_le_succ HNK.out))
      have HC5 := Lib.hid hC5
      clear hown hgr hok hC5
      go_wp2_with fail
      go_still_tail 7, (by kernel_rfl)
      change wpList _ _ _ _ _ W4.drew
      go_upto_region 7 with fail
      clear hrun q0 q1 q2 q3 c9 i0 i1 i2 i3
      obtain ⟨x5, ch5⟩ := HC5.out
      have C5 := Lib.hid ch5
      clear ch5
      have HXB := Lib.hid (show ¬ x.foot cb E W1.heap.size from foot_new C1.out.here)
      obtain ⟨q0, q1, q2, q3⟩ := BX4.out.chain HX.out C5.out
      obtain ⟨i0, i1, i2, i3⟩ := I4.out.chain HXB.out C5.out
      obtain ⟨_, _, cme, _, _, _, _⟩ := C5.out.here.fixed
      rw [HME.out] at cme
      go_wp2_with fail
      refine (want_any true _ B cb E _ _ _ C5.out.here).mono ?_
      rintro e W6 ⟨rfl, u6⟩
      obtain ⟨x6, ch6⟩ := C5.out.next u6
      have C6 := Lib.hid ch6
      clear u6 ch6 q0 q1 q2 q3 i0 i1 i2 i3 cme
      obtain ⟨q0, q1, q2, q3⟩ := BX4.out.chain HX.out C6.out
      obtain ⟨i0, i1, i2, i3⟩ := I4.out.chain HXB.out C6.out
      go_wp2_with fail
      have HWT := Lib.hid (want_any true W6.drew B cb E x6 _ _ (C6.out.here.later (Below.refl _ _).drew))
      obtain ⟨F, hF⟩ : ∃ F, F = @wpStill Tryz.prog := ⟨_, rfl⟩
      have hskip := still_skips hF
      refine wp_region_still_tail 12 (by kernel_rfl) (by kernel_rfl) ?_
      simp only [List.take_succ_cons, List.take_zero, List.drop_succ_cons, List.drop_zero]
      iterate 5 still_step
      rw [← hF]
      refine hskip _ _ _ _ _ _ (by kernel_rfl) (by kernel_rfl) ?_
      refine hskip _ _ _ _ _ _ (by kernel_rfl) (by kernel_rfl) ?_
      refine hskip _ _ _ _ _ _ (by kernel_rfl) (by kernel_rfl) ?_
      refine hskip _ _ _ _ _ _ (by kernel_rfl) (by kernel_rfl) ?_
      refine hskip _ _ _ _ _ _ (by kernel_rfl) (by kernel_rfl) ?_
      refine hskip _ _ _ _ _ _ (by kernel_rfl) (by kernel_rfl) ?_
      rw [hF]
      clear hskip hF F
      still_step
      refine wpStill_nil ?_
      change wpList _ _ _ _ _ W6.drew
      go_wp2_with fail
      refine HWT.out.mono ?_
      rintro e W7 ⟨rfl, u7⟩
      obtain ⟨x7, ch7⟩ := (C6.out.later (Below.refl _ _).drew).next u7
      have C7 := Lib.hid ch7
      clear u7 ch7
      obtain ⟨i0, i1, i2, i3⟩ := I4.out.chain HXB.out C7.out
      have F7 := Lib.hid ((HF.out.want true).want true)
      go_wp2_with fail
      refine (take_any p _ B cb E _ _ _ C7.out.here l0 f F7.out.frames F7.out.height F7.out.stack F7.out.many (by omega)).mono ?_
      rintro e W8 ⟨rfl, u8⟩
      obtain ⟨x8, ch8⟩ := C7.out.next u8
      have C8 := Lib.hid ch8
      have F8 := Lib.hid (F7.out.take p.data.toList)
      clear u8 ch8 i0 i1 i2 i3
      obtain ⟨i0, i1, i2, i3⟩ := I4.out.chain HXB.out C8.out
      go_wp2_with fail
      refine (put_any r _ B cb E _ _ _ C8.out.here (C8.out.size HB4.out) F8.out.stack (by omega)).mono ?_
      rintro e W9 ⟨rfl, u9⟩
      obtain ⟨x9, ch9⟩ := C8.out.next u9
      have C9 := Lib.hid ch9
      clear u9 ch9 i0 i1 i2 i3
      go_wp2_with fail
      go_end0
      exact ⟨rfl, C9.out.upd.after BX4.out.below⟩
end Go.Proofs.YtmbgemcddjailaaGreatDoor.Vld

/- VldOc: The last arm of the checker's step, walked. No condition beyond what each theorem names. -/
namespace Go.Proofs.YtmbgemcddjailaaGreatDoor.Vld
open Go.RowKit Go.Maps Go.Proofs.YtmbgemcddjailaaGreatDoor.Op Go.Proofs.YtmbgemcddjailaaGreatDoor.Mod
set_option linter.unusedVariables false
set_option maxRecDepth 100000 in
set_option maxHeartbeats 8000000 in
theorem last_n6 (v : Vn) (op a b : Int) (lv : Value) (zs : List Int) (nm : ByteArray) (p r : ByteArray) (w : World) (B cb : Nat) (E : Ce) (x : Cx) (c : Ck) (k : Nat) (l0 : List Fr) (f : Fr) (A : Ask w B cb E x c k v l0 f) (hi : opInfo op = some ⟨nm, 6, p, r⟩) (hwf : (Lit.int .i64 op).wf = true) (hcn : controlC v ⟨op, a, b, zs⟩ c = none)
    (g16 : (op == 16) = false) (g26 : (op == 26) = false) (g27 : (op == 27) = false) (g32 : (op == 32) = false) (g33 : (op == 33) = false) (g34 : (op == 34) = false) (g35 : (op == 35) = false) (g36 : (op == 36) = false)
    (hE : ∀ W, Below B w W → OpEnv W) (me : Option Addr) (cap : Nat) (hme : E.me = .slice me 0 cap) (hk : k < maxLen) :
    Calls Tryz.prog 74 #[.pointer (some ⟨cb, 0, none⟩), .agg #[.int .i64 op, .int .i64 a, .int .i64 b, lv]] w fun e w' => e = .returned (.tuple #[]) ∧ Upd w B cb E x (putC r.data.toList (takeC p.data.toList (wantC (wantC c false) true))) (k + 1) w' := by
  obtain ⟨sp, sr⟩ := info_small hi
  have sp' : p.size ≤ 2 := sp
  have sr' : r.size ≤ 1 := sr
  have HF := Lib.hid A.few
  have H := Lib.hid A.here
  have HX := Lib.hid (foot_new A.here)
  have hB := A.low
  have HCT := Lib.hid (fun (W : World) => control_nope ⟨op, a, b, zs⟩ lv W cb (v := v) (c := c) hcn)
  have HE := Lib.hid hE
  have HWF := Lib.hid hwf
  have HOF := Lib.hid (fun (W : World) (hb : Below B w W) => of_lit op W (hE W hb) hwf nm p r 6 true (by rw [hi]; rfl) (by rw [hi]; rfl))
  have HTV := Lib.hid (show ((opInfo op).getD zeroI).toV = .agg #[.string nm, .int .i64 6, .string p, .string r] by rw [hi]; rfl)
  have HME := Lib.hid hme
  clear A hE hi hwf hcn sp sr hme
  go_enter Tryz.func74, Tryz.ntmps74
  go_wp2_with fail
  obtain ⟨W0, hW0⟩ : ∃ W0, w.alloc (.cells #[.int .i64 op, .int .i64 a, .int .i64 b, lv] 29) = W0 := ⟨_, rfl⟩
  rw [hW0]
  have bx0 := boxed_ins hW0
  clear hW0
  refine (HCT.out W0).mono ?_
  rintro e W1 ⟨rfl, b1⟩
  have BX := Lib.hid (bx0.later b1)
  clear bx0 b1
  obtain ⟨q0, q1, q2, q3⟩ : _ ∧ _ ∧ _ ∧ _ := ⟨BX.out.q0, BX.out.q1, BX.out.q2, BX.out.q3⟩
  have C1 := Lib.hid (Chain.start (H.out.later BX.out.below) (Below.refl _ _))
  have HB1 := Lib.hid (show Below B w W1 from BX.out.below.mono hB)
  obtain ⟨_, _, _, _, _, _, c9⟩ := C1.out.here.fixed
  have hbl := C1.out.here.lt
  have hmb := C1.out.here.mlt
  have hq := BX.out.size
  obtain ⟨n, D, hm, hD, hnk, hlook⟩ := infos_look C1.out.here.inf op HWF.out
  have ha2 : (W1.alloc (.cells #[.string ⟨#[]⟩, .int .i64 0, .string ⟨#[]⟩, .string ⟨#[]⟩] 177)).drew.heap[E.mb]? = W1.heap[E.mb]? := Below.heap_alloc _ _ _ hmb
  rcases hlook with ⟨_, hlook⟩ | ⟨_, hlook⟩
  · have hrun1 := hlook W1.drew rfl
    have hrun2 := hlook _ ha2
    rw [HTV.out] at hrun1 hrun2
    clear hlook ha2 hm hD hnk
    go_wp2_with fail
    go_region
    all_goals
      go_upto_region 7 with fail
      obtain ⟨W4, hW4⟩ : ∃ W4, (W1.alloc (.cells #[.string nm, .int .i64 6, .string p, .string r] 177)).drew = W4 := ⟨_, rfl⟩
      rw [hW4]
      have b4 : Below W1.heap.size W1 W4 := by rw [← hW4]; exact ((Below.refl _ _).alloc (Nat.le_refl _) _).drew
      have I4 := Lib.hid (show InfoAt W4 W1.heap.size nm 6 p r from infoAt_new (by rw [← hW4]; exact heap_alloc_new W1 _))
      have BX4 := Lib.hid (BX.out.later b4)
      have HB4 := Lib.hid (show B ≤ W4.heap.size from Nat.le_trans (Nat.le_trans hB (Nat.le_of_lt BX.out.size)) b4.size)
      have C5 := Lib.hid (Chain.start ((C1.out.here.later b4).mono (Nat.le_succ k)) (Below.refl W4.heap.size W4))
      have HB14 := Lib.hid b4
      clear hW4 b4 hrun1 hrun2 q0 q1 q2 q3 c9
      have HXB := Lib.hid (show ¬ x.foot cb E W1.heap.size from foot_new C1.out.here)
      obtain ⟨q0, q1, q2, q3⟩ := BX4.out.chain HX.out C5.out
      obtain ⟨i0, i1, i2, i3⟩ := I4.out.chain HXB.out C5.out
      obtain ⟨_, _, cme, _, _, _, _⟩ := C5.out.here.fixed
      rw [HME.out] at cme
      go_wp2_with fail
      refine (want_any false _ B cb E _ _ _ C5.out.here).mono ?_
      rintro e W6 ⟨rfl, u6⟩
      obtain ⟨x6, ch6⟩ := C5.out.next u6
      have C6 := Lib.hid ch6
      clear u6 ch6 q0 q1 q2 q3 i0 i1 i2 i3 cme
      obtain ⟨q0, q1, q2, q3⟩ := BX4.out.chain HX.out C6.out
      obtain ⟨i0, i1, i2, i3⟩ := I4.out.chain HXB.out C6.out
      go_wp2_with fail
      have HWT := Lib.hid (want_any true W6.drew B cb E x6 _ _ (C6.out.here.later (Below.refl _ _).drew))
      obtain ⟨F, hF⟩ : ∃ F, F = @wpStill Tryz.prog := ⟨_, rfl⟩
      have hskip := still_skips hF
      refine wp_region_still_tail 12 (by kernel_rfl) (by kernel_rfl) ?_
      simp only [List.take_succ_cons, List.take_zero, List.drop_succ_cons, List.drop_zero]
      iterate 5 still_step
      rw [← hF]
      refine hskip _ _ _ _ _ _ (by kernel_rfl) (by kernel_rfl) ?_
      refine hskip _ _ _ _ _ _ (by kernel_rfl) (by kernel_rfl) ?_
      refine hskip _ _ _ _ _ _ (by kernel_rfl) (by kernel_rfl) ?_
      refine hskip _ _ _ _ _ _ (by kernel_rfl) (by kernel_rfl) ?_
      refine hskip _ _ _ _ _ _ (by kernel_rfl) (by kernel_rfl) ?_
      refine hskip _ _ _ _ _ _ (by kernel_rfl) (by kernel_rfl) ?_
      rw [hF]
      clear hskip hF F
      still_step
      refine wpStill_nil ?_
      change wpList _ _ _ _ _ W6.drew
      go_wp2_with fail
      refine HWT.out.mono ?_
      rintro e W7 ⟨rfl, u7⟩
      obtain ⟨x7, ch7⟩ := (C6.out.later (Below.refl _ _).drew).next u7
      have C7 := Lib.hid ch7
      clear u7 ch7
      obtain ⟨i0, i1, i2, i3⟩ := I4.out.chain HXB.out C7.out
      have F7 := Lib.hid ((HF.out.want false).want true)
      go_wp2_with fail
      refine (take_any p _ B cb E _ _ _ C7.out.here l0 f F7.out.frames F7.out.height F7.out.stack F7.out.many (by omega)).mono ?_
      rintro e W8 ⟨rfl, u8⟩
      obtain ⟨x8, ch8⟩ := C7.out.next u8
      have C8 := Lib.hid ch8
      have F8 := Lib.hid (F7.out.take p.data.toList)
      clear u8 ch8 i0 i1 i2 i3
      obtain ⟨i0, i1, i2, i3⟩ := I4.out.chain HXB.out C8.out
      go_wp2_with fail
      refine (put_any r _ B cb E _ _ _ C8.out.here (C8.out.size HB4.out) F8.out.stack (by omega)).mono ?_
      rintro e W9 ⟨rfl, u9⟩
      obtain ⟨x9, ch9⟩ := C8.out.next u9
      have C9 := Lib.hid ch9
      clear u9 ch9 i0 i1 i2 i3
      go_wp2_with fail
      go_end0
      exact ⟨rfl, C9.out.upd.after BX4.out.below⟩
  · have hrun1 := hlook W1.drew rfl
    have hrun2 := hlook _ ha2
    change _ = Result.ok (Value.tuple #[.agg #[.string ⟨#[]⟩, .int .i64 0, .string ⟨#[]⟩, .string ⟨#[]⟩], .bool false]) _ at hrun1 hrun2
    have HM := Lib.hid hm
    have HD := Lib.hid hD
    have HNK := Lib.hid hnk
    clear hlook ha2 hm hD hnk
    go_wp2_with fail
    go_region
    all_goals
      go_wp2_with fail
      obtain ⟨W2, hW2⟩ : ∃ W2, (W1.alloc (.cells #[.string ⟨#[]⟩, .int .i64 0, .string ⟨#[]⟩, .string ⟨#[]⟩] 177)).drew = W2 := ⟨_, rfl⟩
      rw [hW2]
      have b2 : Below W1.heap.size W1 W2 := by rw [← hW2]; exact ((Below.refl _ _).alloc (Nat.le_refl _) _).drew
      have hz2 : W2.heap[W1.heap.size]? = some (.cells #[.string ⟨#[]⟩, .int .i64 0, .string ⟨#[]⟩, .string ⟨#[]⟩] 177 (0, 0)) := by rw [← hW2]; exact heap_alloc_new W1 _
      have B2 := Lib.hid b2
      have Z2 := Lib.hid hz2
      clear hW2 b2 hz2 hrun1 hrun2 q0 q1 q2 q3 c9
      refine (HOF.out W2 (HB1.out.trans (B2.out.mono (Nat.le_trans hB (Nat.le_of_lt BX.out.size))))).mono ?_
      rintro e W3 ⟨rfl, b3⟩
      have hz3 : W3.heap[W1.heap.size]? = some (.cells #[.string ⟨#[]⟩, .int .i64 0, .string ⟨#[]⟩, .string ⟨#[]⟩] 177 (0, 0)) := (b3.block _ (Array.getElem?_eq_some_iff.1 Z2.out).1).trans Z2.out
      have z0 : W3.cell? ⟨W1.heap.size, 0, none⟩ = some (.string ⟨#[]⟩) := (cell_of_row W3 _ _ _ _ _ hz3).trans rfl
      have z1 : W3.cell? ⟨W1.heap.size, 1, none⟩ = some (.int .i64 0) := (cell_of_row W3 _ _ _ _ _ hz3).trans rfl
      have z2 : W3.cell? ⟨W1.heap.size, 2, none⟩ = some (.string ⟨#[]⟩) := (cell_of_row W3 _ _ _ _ _ hz3).trans rfl
      have z3 : W3.cell? ⟨W1.heap.size, 3, none⟩ = some (.string ⟨#[]⟩) := (cell_of_row W3 _ _ _ _ _ hz3).trans rfl
      have zf : ∀ j, W3.frozen? ⟨W1.heap.size, j, none⟩ = false := fun j => frozen_of_row W3 _ j _ _ hz3
      have b13 := B2.out.trans (b3.mono B2.out.size)
      have B13 := Lib.hid b13
      have Z3 := Lib.hid hz3
      clear b3 hz3 b13
      go_upto_region 6 with fail
      obtain ⟨W4, hW4⟩ : ∃ W4, (((W3.setCell ⟨W1.heap.size, 0, none⟩ (.string nm)).setCell ⟨W1.heap.size, 1, none⟩ (.int .i64 6)).setCell ⟨W1.heap.size, 2, none⟩ (.string p)).setCell ⟨W1.heap.size, 3, none⟩ (.string r) = W4 := ⟨_, rfl⟩
      rw [hW4]
      have b4 : Below W1.heap.size W1 W4 := by rw [← hW4]; exact (((B13.out.setCell (Nat.le_refl _) _).setCell (Nat.le_refl _) _).setCell (Nat.le_refl _) _).setCell (Nat.le_refl _) _
      have hi4 : W4.heap[W1.heap.size]? = some (.cells #[.string nm, .int .i64 6, .string p, .string r] 177 (0, 0)) := by
        rw [← hW4, box_set (box_set (box_set (box_set Z3.out 0 _) 1 _) 2 _) 3 _]
        rfl
      have i4 : InfoAt W4 W1.heap.size nm 6 p r := infoAt_new hi4
      have I4 := Lib.hid i4
      have BX4 := Lib.hid (BX.out.later b4)
      have HB4 := Lib.hid (show B ≤ W4.heap.size from Nat.le_trans (Nat.le_trans hB (Nat.le_of_lt BX.out.size)) b4.size)
      have C4 := Lib.hid (C1.out.here.later b4)
      have HM4 := Lib.hid (ownsMap_of HM.out (b4.block _ hmb))
      have HB14 := Lib.hid b4
      clear hW4 b4 z0 z1 z2 z3 zf hi4
      obtain ⟨i0, i1, i2, i3⟩ := i4
      obtain ⟨q0, q1, q2, q3⟩ : _ ∧ _ ∧ _ ∧ _ := ⟨BX4.out.q0, BX4.out.q1, BX4.out.q2, BX4.out.q3⟩
      obtain ⟨_, _, _, _, _, _, c9⟩ := C4.out.fixed
      obtain ⟨W5, hrun, hown, hgr⟩ := HM4.out.drew.update (val := .agg #[.string nm, .int .i64 6, .string p, .string r]) keyed_int Tryz.underlying154 (Nat.lt_of_le_of_lt HNK.out hk) (key_int op HWF.out) rfl
      have hok := infos_put HD.out op
      rw [HTV.out] at hok
      have hC5 := (Chain.start C4.out (Below.refl W4.heap.size W4).drew).next ((C4.out.later (Below.refl _ _).drew).setInf hgr hown hok (Nat.succ_le_succ HNK.out))
      have HC5 := Lib.hid hC5
      clear hown hgr hok hC5
      go_wp2_with fail
      go_still_tail 7, (by kernel_rfl)
      change wpList _ _ _ _ _ W4.drew
      go_upto_region 7 with fail
      clear hrun q0 q1 q2 q3 c9 i0 i1 i2 i3
      obtain ⟨x5, ch5⟩ := HC5.out
      have C5 := Lib.hid ch5
      clear ch5
      have HXB := Lib.hid (show ¬ x.foot cb E W1.heap.size from foot_new C1.out.here)
      obtain ⟨q0, q1, q2, q3⟩ := BX4.out.chain HX.out C5.out
      obtain ⟨i0, i1, i2, i3⟩ := I4.out.chain HXB.out C5.out
      obtain ⟨_, _, cme, _, _, _, _⟩ := C5.out.here.fixed
      rw [HME.out] at cme
      go_wp2_with fail
      refine (want_any false _ B cb E _ _ _ C5.out.here).mono ?_
      rintro e W6 ⟨rfl, u6⟩
      obtain ⟨x6, ch6⟩ := C5.out.next u6
      have C6 := Lib.hid ch6
      clear u6 ch6 q0 q1 q2 q3 i0 i1 i2 i3 cme
      obtain ⟨q0, q1, q2, q3⟩ := BX4.out.chain HX.out C6.out
      obtain ⟨i0, i1, i2, i3⟩ := I4.out.chain HXB.out C6.out
      go_wp2_with fail
      have HWT := Lib.hid (want_any true W6.drew B cb E x6 _ _ (C6.out.here.later (Below.refl _ _).drew))
      obtain ⟨F, hF⟩ : ∃ F, F = @wpStill Tryz.prog := ⟨_, rfl⟩
      have hskip := still_skips hF
      refine wp_region_still_tail 12 (by kernel_rfl) (by kernel_rfl) ?_
      simp only [List.take_succ_cons, List.take_zero, List.drop_succ_cons, List.drop_zero]
      iterate 5 still_step
      rw [← hF]
      refine hskip _ _ _ _ _ _ (by kernel_rfl) (by kernel_rfl) ?_
      refine hskip _ _ _ _ _ _ (by kernel_rfl) (by kernel_rfl) ?_
      refine hskip _ _ _ _ _ _ (by kernel_rfl) (by kernel_rfl) ?_
      refine hskip _ _ _ _ _ _ (by kernel_rfl) (by kernel_rfl) ?_
      refine hskip _ _ _ _ _ _ (by kernel_rfl) (by kernel_rfl) ?_
      refine hskip _ _ _ _ _ _ (by kernel_rfl) (by kernel_rfl) ?_
      rw [hF]
      clear hskip hF F
      still_step
      refine wpStill_nil ?_
      change wpList _ _ _ _ _ W6.drew
      go_wp2_with fail
      refine HWT.out.mono ?_
      rintro e W7 ⟨rfl, u7⟩
      obtain ⟨x7, ch7⟩ := (C6.out.later (Below.refl _ _).drew).next u7
      have C7 := Lib.hid ch7
      clear u7 ch7
      obtain ⟨i0, i1, i2, i3⟩ := I4.out.chain HXB.out C7.out
      have F7 := Lib.hid ((HF.out.want false).want true)
      go_wp2_with fail
      refine (take_any p _ B cb E _ _ _ C7.out.here l0 f F7.out.frames F7.out.height F7.out.stack F7.out.many (by omega)).mono ?_
      rintro e W8 ⟨rfl, u8⟩
      obtain ⟨x8, ch8⟩ := C7.out.next u8
      have C8 := Lib.hid ch8
      have F8 := Lib.hid (F7.out.take p.data.toList)
      clear u8 ch8 i0 i1 i2 i3
      obtain ⟨i0, i1, i2, i3⟩ := I4.out.chain HXB.out C8.out
      go_wp2_with fail
      refine (put_any r _ B cb E _ _ _ C8.out.here (C8.out.size HB4.out) F8.out.stack (by omega)).mono ?_
      rintro e W9 ⟨rfl, u9⟩
      obtain ⟨x9, ch9⟩ := C8.out.next u9
      have C9 := Lib.hid ch9
      clear u9 ch9 i0 i1 i2 i3
      go_wp2_with fail
      go_end0
      exact ⟨rfl, C9.out.upd.after BX4.out.below⟩
set_option maxRecDepth 100000 in
set_option maxHeartbeats 8000000 in
theorem last_m5 (v : Vn) (op a b : Int) (lv : Value) (zs : List Int) (nm : ByteArray) (p r : ByteArray) (w : World) (B cb : Nat) (E : Ce) (x : Cx) (c : Ck) (k : Nat) (l0 : List Fr) (f : Fr) (A : Ask w B cb E x c k v l0 f) (hi : opInfo op = some ⟨nm, 5, p, r⟩) (hwf : (Lit.int .i64 op).wf = true) (hcn : controlC v ⟨op, a, b, zs⟩ c = none)
    (g16 : (op == 16) = false) (g26 : (op == 26) = false) (g27 : (op == 27) = false) (g32 : (op == 32) = false) (g33 : (op == 33) = false) (g34 : (op == 34) = false) (g35 : (op == 35) = false) (g36 : (op == 36) = false)
    (hE : ∀ W, Below B w W → OpEnv W) (me : Option Addr) (L cap : Nat) (hme : E.me = .slice me L cap) (hk : k < maxLen) (hL : 0 < L) :
    Calls Tryz.prog 74 #[.pointer (some ⟨cb, 0, none⟩), .agg #[.int .i64 op, .int .i64 a, .int .i64 b, lv]] w fun e w' => e = .returned (.tuple #[]) ∧ Upd w B cb E x (putC r.data.toList (takeC p.data.toList (wantC (wantC c true) (decide (a ≤ reachOf op))))) (k + 1) w' := by
  have hL2 : decide (0 < L) = true := decide_eq_true hL
  obtain ⟨sp, sr⟩ := info_small hi
  have sp' : p.size ≤ 2 := sp
  have sr' : r.size ≤ 1 := sr
  have HF := Lib.hid A.few
  have H := Lib.hid A.here
  have HX := Lib.hid (foot_new A.here)
  have hB := A.low
  have HCT := Lib.hid (fun (W : World) => control_nope ⟨op, a, b, zs⟩ lv W cb (v := v) (c := c) hcn)
  have HE := Lib.hid hE
  have HWF := Lib.hid hwf
  have HOF := Lib.hid (fun (W : World) (hb : Below B w W) => of_lit op W (hE W hb) hwf nm p r 5 true (by rw [hi]; rfl) (by rw [hi]; rfl))
  have HTV := Lib.hid (show ((opInfo op).getD zeroI).toV = .agg #[.string nm, .int .i64 5, .string p, .string r] by rw [hi]; rfl)
  have HME := Lib.hid hme
  clear A hE hi hwf hcn sp sr hme
  go_enter Tryz.func74, Tryz.ntmps74
  go_wp2_with fail
  obtain ⟨W0, hW0⟩ : ∃ W0, w.alloc (.cells #[.int .i64 op, .int .i64 a, .int .i64 b, lv] 29) = W0 := ⟨_, rfl⟩
  rw [hW0]
  have bx0 := boxed_ins hW0
  clear hW0
  refine (HCT.out W0).mono ?_
  rintro e W1 ⟨rfl, b1⟩
  have BX := Lib.hid (bx0.later b1)
  clear bx0 b1
  obtain ⟨q0, q1, q2, q3⟩ : _ ∧ _ ∧ _ ∧ _ := ⟨BX.out.q0, BX.out.q1, BX.out.q2, BX.out.q3⟩
  have C1 := Lib.hid (Chain.start (H.out.later BX.out.below) (Below.refl _ _))
  have HB1 := Lib.hid (show Below B w W1 from BX.out.below.mono hB)
  obtain ⟨_, _, _, _, _, _, c9⟩ := C1.out.here.fixed
  have hbl := C1.out.here.lt
  have hmb := C1.out.here.mlt
  have hq := BX.out.size
  obtain ⟨n, D, hm, hD, hnk, hlook⟩ := infos_look C1.out.here.inf op HWF.out
  have ha2 : (W1.alloc (.cells #[.string ⟨#[]⟩, .int .i64 0, .string ⟨#[]⟩, .string ⟨#[]⟩] 177)).drew.heap[E.mb]? = W1.heap[E.mb]? := Below.heap_alloc _ _ _ hmb
  rcases hlook with ⟨_, hlook⟩ | ⟨_, hlook⟩
  · have hrun1 := hlook W1.drew rfl
    have hrun2 := hlook _ ha2
    rw [HTV.out] at hrun1 hrun2
    clear hlook ha2 hm hD hnk
    go_wp2_with fail
    go_region
    all_goals
      go_upto_region 7 with fail
      obtain ⟨W4, hW4⟩ : ∃ W4, (W1.alloc (.cells #[.string nm, .int .i64 5, .string p, .string r] 177)).drew = W4 := ⟨_, rfl⟩
      rw [hW4]
      have b4 : Below W1.heap.size W1 W4 := by rw [← hW4]; exact ((Below.refl _ _).alloc (Nat.le_refl _) _).drew
      have I4 := Lib.hid (show InfoAt W4 W1.heap.size nm 5 p r from infoAt_new (by rw [← hW4]; exact heap_alloc_new W1 _))
      have BX4 := Lib.hid (BX.out.later b4)
      have HB4 := Lib.hid (show B ≤ W4.heap.size from Nat.le_trans (Nat.le_trans hB (Nat.le_of_lt BX.out.size)) b4.size)
      have C5 := Lib.hid (Chain.start ((C1.out.here.later b4).mono (Nat.le_succ k)) (Below.refl W4.heap.size W4))
      have HB14 := Lib.hid b4
      clear hW4 b4 hrun1 hrun2 q0 q1 q2 q3 c9
      have HXB := Lib.hid (show ¬ x.foot cb E W1.heap.size from foot_new C1.out.here)
      obtain ⟨q0, q1, q2, q3⟩ := BX4.out.chain HX.out C5.out
      obtain ⟨i0, i1, i2, i3⟩ := I4.out.chain HXB.out C5.out
      obtain ⟨_, _, cme, _, _, _, _⟩ := C5.out.here.fixed
      rw [HME.out] at cme
      go_wp2_with fail
      refine (want_any true _ B cb E _ _ _ C5.out.here).mono ?_
      rintro e W6 ⟨rfl, u6⟩
      obtain ⟨x6, ch6⟩ := C5.out.next u6
      have C6 := Lib.hid ch6
      clear u6 ch6 q0 q1 q2 q3 i0 i1 i2 i3 cme
      obtain ⟨q0, q1, q2, q3⟩ := BX4.out.chain HX.out C6.out
      obtain ⟨i0, i1, i2, i3⟩ := I4.out.chain HXB.out C6.out
      go_wp2_with fail
      have KEEP := Lib.hid (fun (WR : World) (bR : Below W6.drew.heap.size W6.drew WR) (W7 : World) (u7 : Upd WR B cb E x6 (wantC (wantC c true) (decide (a ≤ reachOf op))) (k + 1) W7) => (show HeldC w.heap.size W1.heap.size op a 5 W7 from by
        obtain ⟨x7, ch7⟩ := (C6.out.later ((Below.refl W6.heap.size W6).drew.trans bR)).next u7
        obtain ⟨g0, g1, _, _⟩ := BX4.out.chain HX.out ch7
        obtain ⟨_, g2, _, _⟩ := I4.out.chain HXB.out ch7
        exact ⟨g0, g1, g2⟩))
      have KR := Lib.hid (fun (WR : World) (bR : Below W6.drew.heap.size W6.drew WR) => (show HeldC w.heap.size W1.heap.size op a 5 WR from by
        obtain ⟨g0, g1, _, _⟩ := BX4.out.chain HX.out (C6.out.later ((Below.refl W6.heap.size W6).drew.trans bR))
        obtain ⟨_, g2, _, _⟩ := I4.out.chain HXB.out (C6.out.later ((Below.refl W6.heap.size W6).drew.trans bR))
        exact ⟨g0, g1, g2⟩))
      have KD := Lib.hid (show HeldC w.heap.size W1.heap.size op a 5 W6.drew from ⟨q0, q1, i1⟩)
      have HRC := Lib.hid (reach_any op HWF.out W6.drew)
      have HWT := Lib.hid (fun (WR : World) (bR : Below W6.drew.heap.size W6.drew WR) => want_any (decide (a ≤ reachOf op)) WR B cb E x6 _ _ (C6.out.here.later ((Below.refl W6.heap.size W6).drew.trans bR)))
      clear q0 q1 q2 q3 i0 i1 i2 i3
      go_region_held3 (fun W => HeldC w.heap.size W1.heap.size op a 5 W) (first | (with_reducible assumption) | (with_reducible exact KD.out)) (first | (go_at_call 112; (with_reducible refine HRC.out.mono ?_); rintro en WR ⟨rfl, bR⟩; have kR := KR.out WR bR) | (go_at_call 109; (with_reducible refine (HWT.out _ (by with_reducible assumption)).mono ?_); rintro en W7 ⟨rfl, u7⟩; have k7 := KEEP.out _ (by with_reducible assumption) W7 u7))
      all_goals
        obtain ⟨x7, ch7⟩ := (C6.out.later ((Below.refl W6.heap.size W6).drew.trans bR)).next u7
        have C7 := Lib.hid ch7
        clear u7 ch7 k7 kR bR
        obtain ⟨i0, i1, i2, i3⟩ := I4.out.chain HXB.out C7.out
        have F7 := Lib.hid ((HF.out.want true).want (decide (a ≤ reachOf op)))
        go_wp2_with fail
        refine (take_any p _ B cb E _ _ _ C7.out.here l0 f F7.out.frames F7.out.height F7.out.stack F7.out.many (by omega)).mono ?_
        rintro e W8 ⟨rfl, u8⟩
        obtain ⟨x8, ch8⟩ := C7.out.next u8
        have C8 := Lib.hid ch8
        have F8 := Lib.hid (F7.out.take p.data.toList)
        clear u8 ch8 i0 i1 i2 i3
        obtain ⟨i0, i1, i2, i3⟩ := I4.out.chain HXB.out C8.out
        go_wp2_with fail
        refine (put_any r _ B cb E _ _ _ C8.out.here (C8.out.size HB4.out) F8.out.stack (by omega)).mono ?_
        rintro e W9 ⟨rfl, u9⟩
        obtain ⟨x9, ch9⟩ := C8.out.next u9
        have C9 := Lib.hid ch9
        clear u9 ch9 i0 i1 i2 i3
        go_wp2_with fail
        go_end0
        exact ⟨rfl, C9.out.upd.after BX4.out.below⟩
  · have hrun1 := hlook W1.drew rfl
    have hrun2 := hlook _ ha2
    change _ = Result.ok (Value.tuple #[.agg #[.string ⟨#[]⟩, .int .i64 0, .string ⟨#[]⟩, .string ⟨#[]⟩], .bool false]) _ at hrun1 hrun2
    have HM := Lib.hid hm
    have HD := Lib.hid hD
    have HNK := Lib.hid hnk
    clear hlook ha2 hm hD hnk
    go_wp2_with fail
    go_region
    all_goals
      go_wp2_with fail
      obtain ⟨W2, hW2⟩ : ∃ W2, (W1.alloc (.cells #[.string ⟨#[]⟩, .int .i64 0, .string ⟨#[]⟩, .string ⟨#[]⟩] 177)).drew = W2 := ⟨_, rfl⟩
      rw [hW2]
      have b2 : Below W1.heap.size W1 W2 := by rw [← hW2]; exact ((Below.refl _ _).alloc (Nat.le_refl _) _).drew
      have hz2 : W2.heap[W1.heap.size]? = some (.cells #[.string ⟨#[]⟩, .int .i64 0, .string ⟨#[]⟩, .string ⟨#[]⟩] 177 (0, 0)) := by rw [← hW2]; exact heap_alloc_new W1 _
      have B2 := Lib.hid b2
      have Z2 := Lib.hid hz2
      clear hW2 b2 hz2 hrun1 hrun2 q0 q1 q2 q3 c9
      refine (HOF.out W2 (HB1.out.trans (B2.out.mono (Nat.le_trans hB (Nat.le_of_lt BX.out.size))))).mono ?_
      rintro e W3 ⟨rfl, b3⟩
      have hz3 : W3.heap[W1.heap.size]? = some (.cells #[.string ⟨#[]⟩, .int .i64 0, .string ⟨#[]⟩, .string ⟨#[]⟩] 177 (0, 0)) := (b3.block _ (Array.getElem?_eq_some_iff.1 Z2.out).1).trans Z2.out
      have z0 : W3.cell? ⟨W1.heap.size, 0, none⟩ = some (.string ⟨#[]⟩) := (cell_of_row W3 _ _ _ _ _ hz3).trans rfl
      have z1 : W3.cell? ⟨W1.heap.size, 1, none⟩ = some (.int .i64 0) := (cell_of_row W3 _ _ _ _ _ hz3).trans rfl
      have z2 : W3.cell? ⟨W1.heap.size, 2, none⟩ = some (.string ⟨#[]⟩) := (cell_of_row W3 _ _ _ _ _ hz3).trans rfl
      have z3 : W3.cell? ⟨W1.heap.size, 3, none⟩ = some (.string ⟨#[]⟩) := (cell_of_row W3 _ _ _ _ _ hz3).trans rfl
      have zf : ∀ j, W3.frozen? ⟨W1.heap.size, j, none⟩ = false := fun j => frozen_of_row W3 _ j _ _ hz3
      have b13 := B2.out.trans (b3.mono B2.out.size)
      have B13 := Lib.hid b13
      have Z3 := Lib.hid hz3
      clear b3 hz3 b13
      go_upto_region 6 with fail
      obtain ⟨W4, hW4⟩ : ∃ W4, (((W3.setCell ⟨W1.heap.size, 0, none⟩ (.string nm)).setCell ⟨W1.heap.size, 1, none⟩ (.int .i64 5)).setCell ⟨W1.heap.size, 2, none⟩ (.string p)).setCell ⟨W1.heap.size, 3, none⟩ (.string r) = W4 := ⟨_, rfl⟩
      rw [hW4]
      have b4 : Below W1.heap.size W1 W4 := by rw [← hW4]; exact (((B13.out.setCell (Nat.le_refl _) _).setCell (Nat.le_refl _) _).setCell (Nat.le_refl _) _).setCell (Nat.le_refl _) _
      have hi4 : W4.heap[W1.heap.size]? = some (.cells #[.string nm, .int .i64 5, .string p, .string r] 177 (0, 0)) := by
        rw [← hW4, box_set (box_set (box_set (box_set Z3.out 0 _) 1 _) 2 _) 3 _]
        rfl
      have i4 : InfoAt W4 W1.heap.size nm 5 p r := infoAt_new hi4
      have I4 := Lib.hid i4
      have BX4 := Lib.hid (BX.out.later b4)
      have HB4 := Lib.hid (show B ≤ W4.heap.size from Nat.le_trans (Nat.le_trans hB (Nat.le_of_lt BX.out.size)) b4.size)
      have C4 := Lib.hid (C1.out.here.later b4)
      have HM4 := Lib.hid (ownsMap_of HM.out (b4.block _ hmb))
      have HB14 := Lib.hid b4
      clear hW4 b4 z0 z1 z2 z3 zf hi4
      obtain ⟨i0, i1, i2, i3⟩ := i4
      obtain ⟨q0, q1, q2, q3⟩ : _ ∧ _ ∧ _ ∧ _ := ⟨BX4.out.q0, BX4.out.q1, BX4.out.q2, BX4.out.q3⟩
      obtain ⟨_, _, _, _, _, _, c9⟩ := C4.out.fixed
      obtain ⟨W5, hrun, hown, hgr⟩ := HM4.out.drew.update (val := .agg #[.string nm, .int .i64 5, .string p, .string r]) keyed_int Tryz.underlying154 (Nat.lt_of_le_of_lt HNK.out hk) (key_int op HWF.out) rfl
      have hok := infos_put HD.out op
      rw [HTV.out] at hok
      have hC5 := (Chain.start C4.out (Below.refl W4.heap.size W4).drew).next ((C4.out.later (Below.refl _ _).drew).setInf hgr hown hok (Nat.succ_le_succ HNK.out))
      have HC5 := Lib.hid hC5
      clear hown hgr hok hC5
      go_wp2_with fail
      go_still_tail 7, (by kernel_rfl)
      change wpList _ _ _ _ _ W4.drew
      go_upto_region 7 with fail
      clear hrun q0 q1 q2 q3 c9 i0 i1 i2 i3
      obtain ⟨x5, ch5⟩ := HC5.out
      have C5 := Lib.hid ch5
      clear ch5
      have HXB := Lib.hid (show ¬ x.foot cb E W1.heap.size from foot_new C1.out.here)
      obtain ⟨q0, q1, q2, q3⟩ := BX4.out.chain HX.out C5.out
      obtain ⟨i0, i1, i2, i3⟩ := I4.out.chain HXB.out C5.out
      obtain ⟨_, _, cme, _, _, _, _⟩ := C5.out.here.fixed
      rw [HME.out] at cme
      go_wp2_with fail
      refine (want_any true _ B cb E _ _ _ C5.out.here).mono ?_
      rintro e W6 ⟨rfl, u6⟩
      obtain ⟨x6, ch6⟩ := C5.out.next u6
      have C6 := Lib.hid ch6
      clear u6 ch6 q0 q1 q2 q3 i0 i1 i2 i3 cme
      obtain ⟨q0, q1, q2, q3⟩ := BX4.out.chain HX.out C6.out
      obtain ⟨i0, i1, i2, i3⟩ := I4.out.chain HXB.out C6.out
      go_wp2_with fail
      have KEEP := Lib.hid (fun (WR : World) (bR : Below W6.drew.heap.size W6.drew WR) (W7 : World) (u7 : Upd WR B cb E x6 (wantC (wantC c true) (decide (a ≤ reachOf op))) (k + 1) W7) => (show HeldC w.heap.size W1.heap.size op a 5 W7 from by
        obtain ⟨x7, ch7⟩ := (C6.out.later ((Below.refl W6.heap.size W6).drew.trans bR)).next u7
        obtain ⟨g0, g1, _, _⟩ := BX4.out.chain HX.out ch7
        obtain ⟨_, g2, _, _⟩ := I4.out.chain HXB.out ch7
        exact ⟨g0, g1, g2⟩))
      have KR := Lib.hid (fun (WR : World) (bR : Below W6.drew.heap.size W6.drew WR) => (show HeldC w.heap.size W1.heap.size op a 5 WR from by
        obtain ⟨g0, g1, _, _⟩ := BX4.out.chain HX.out (C6.out.later ((Below.refl W6.heap.size W6).drew.trans bR))
        obtain ⟨_, g2, _, _⟩ := I4.out.chain HXB.out (C6.out.later ((Below.refl W6.heap.size W6).drew.trans bR))
        exact ⟨g0, g1, g2⟩))
      have KD := Lib.hid (show HeldC w.heap.size W1.heap.size op a 5 W6.drew from ⟨q0, q1, i1⟩)
      have HRC := Lib.hid (reach_any op HWF.out W6.drew)
      have HWT := Lib.hid (fun (WR : World) (bR : Below W6.drew.heap.size W6.drew WR) => want_any (decide (a ≤ reachOf op)) WR B cb E x6 _ _ (C6.out.here.later ((Below.refl W6.heap.size W6).drew.trans bR)))
      clear q0 q1 q2 q3 i0 i1 i2 i3
      go_region_held3 (fun W => HeldC w.heap.size W1.heap.size op a 5 W) (first | (with_reducible assumption) | (with_reducible exact KD.out)) (first | (go_at_call 112; (with_reducible refine HRC.out.mono ?_); rintro en WR ⟨rfl, bR⟩; have kR := KR.out WR bR) | (go_at_call 109; (with_reducible refine (HWT.out _ (by with_reducible assumption)).mono ?_); rintro en W7 ⟨rfl, u7⟩; have k7 := KEEP.out _ (by with_reducible assumption) W7 u7))
      all_goals
        obtain ⟨x7, ch7⟩ := (C6.out.later ((Below.refl W6.heap.size W6).drew.trans bR)).next u7
        have C7 := Lib.hid ch7
        clear u7 ch7 k7 kR bR
        obtain ⟨i0, i1, i2, i3⟩ := I4.out.chain HXB.out C7.out
        have F7 := Lib.hid ((HF.out.want true).want (decide (a ≤ reachOf op)))
        go_wp2_with fail
        refine (take_any p _ B cb E _ _ _ C7.out.here l0 f F7.out.frames F7.out.height F7.out.stack F7.out.many (by omega)).mono ?_
        rintro e W8 ⟨rfl, u8⟩
        obtain ⟨x8, ch8⟩ := C7.out.next u8
        have C8 := Lib.hid ch8
        have F8 := Lib.hid (F7.out.take p.data.toList)
        clear u8 ch8 i0 i1 i2 i3
        obtain ⟨i0, i1, i2, i3⟩ := I4.out.chain HXB.out C8.out
        go_wp2_with fail
        refine (put_any r _ B cb E _ _ _ C8.out.here (C8.out.size HB4.out) F8.out.stack (by omega)).mono ?_
        rintro e W9 ⟨rfl, u9⟩
        obtain ⟨x9, ch9⟩ := C8.out.next u9
        have C9 := Lib.hid ch9
        clear u9 ch9 i0 i1 i2 i3
        go_wp2_with fail
        go_end0
        exact ⟨rfl, C9.out.upd.after BX4.out.below⟩
set_option maxRecDepth 100000 in
set_option maxHeartbeats 8000000 in
theorem last_n5 (v : Vn) (op a b : Int) (lv : Value) (zs : List Int) (nm : ByteArray) (p r : ByteArray) (w : World) (B cb : Nat) (E : Ce) (x : Cx) (c : Ck) (k : Nat) (l0 : List Fr) (f : Fr) (A : Ask w B cb E x c k v l0 f) (hi : opInfo op = some ⟨nm, 5, p, r⟩) (hwf : (Lit.int .i64 op).wf = true) (hcn : controlC v ⟨op, a, b, zs⟩ c = none)
    (g16 : (op == 16) = false) (g26 : (op == 26) = false) (g27 : (op == 27) = false) (g32 : (op == 32) = false) (g33 : (op == 33) = false) (g34 : (op == 34) = false) (g35 : (op == 35) = false) (g36 : (op == 36) = false)
    (hE : ∀ W, Below B w W → OpEnv W) (me : Option Addr) (cap : Nat) (hme : E.me = .slice me 0 cap) (hk : k < maxLen) :
    Calls Tryz.prog 74 #[.pointer (some ⟨cb, 0, none⟩), .agg #[.int .i64 op, .int .i64 a, .int .i64 b, lv]] w fun e w' => e = .returned (.tuple #[]) ∧ Upd w B cb E x (putC r.data.toList (takeC p.data.toList (wantC (wantC c false) (decide (a ≤ reachOf op))))) (k + 1) w' := by
  obtain ⟨sp, sr⟩ := info_small hi
  have sp' : p.size ≤ 2 := sp
  have sr' : r.size ≤ 1 := sr
  have HF := Lib.hid A.few
  have H := Lib.hid A.here
  have HX := Lib.hid (foot_new A.here)
  have hB := A.low
  have HCT := Lib.hid (fun (W : World) => control_nope ⟨op, a, b, zs⟩ lv W cb (v := v) (c := c) hcn)
  have HE := Lib.hid hE
  have HWF := Lib.hid hwf
  have HOF := Lib.hid (fun (W : World) (hb : Below B w W) => of_lit op W (hE W hb) hwf nm p r 5 true (by rw [hi]; rfl) (by rw [hi]; rfl))
  have HTV := Lib.hid (show ((opInfo op).getD zeroI).toV = .agg #[.string nm, .int .i64 5, .string p, .string r] by rw [hi]; rfl)
  have HME := Lib.hid hme
  clear A hE hi hwf hcn sp sr hme
  go_enter Tryz.func74, Tryz.ntmps74
  go_wp2_with fail
  obtain ⟨W0, hW0⟩ : ∃ W0, w.alloc (.cells #[.int .i64 op, .int .i64 a, .int .i64 b, lv] 29) = W0 := ⟨_, rfl⟩
  rw [hW0]
  have bx0 := boxed_ins hW0
  clear hW0
  refine (HCT.out W0).mono ?_
  rintro e W1 ⟨rfl, b1⟩
  have BX := Lib.hid (bx0.later b1)
  clear bx0 b1
  obtain ⟨q0, q1, q2, q3⟩ : _ ∧ _ ∧ _ ∧ _ := ⟨BX.out.q0, BX.out.q1, BX.out.q2, BX.out.q3⟩
  have C1 := Lib.hid (Chain.start (H.out.later BX.out.below) (Below.refl _ _))
  have HB1 := Lib.hid (show Below B w W1 from BX.out.below.mono hB)
  obtain ⟨_, _, _, _, _, _, c9⟩ := C1.out.here.fixed
  have hbl := C1.out.here.lt
  have hmb := C1.out.here.mlt
  have hq := BX.out.size
  obtain ⟨n, D, hm, hD, hnk, hlook⟩ := infos_look C1.out.here.inf op HWF.out
  have ha2 : (W1.alloc (.cells #[.string ⟨#[]⟩, .int .i64 0, .string ⟨#[]⟩, .string ⟨#[]⟩] 177)).drew.heap[E.mb]? = W1.heap[E.mb]? := Below.heap_alloc _ _ _ hmb
  rcases hlook with ⟨_, hlook⟩ | ⟨_, hlook⟩
  · have hrun1 := hlook W1.drew rfl
    have hrun2 := hlook _ ha2
    rw [HTV.out] at hrun1 hrun2
    clear hlook ha2 hm hD hnk
    go_wp2_with fail
    go_region
    all_goals
      go_upto_region 7 with fail
      obtain ⟨W4, hW4⟩ : ∃ W4, (W1.alloc (.cells #[.string nm, .int .i64 5, .string p, .string r] 177)).drew = W4 := ⟨_, rfl⟩
      rw [hW4]
      have b4 : Below W1.heap.size W1 W4 := by rw [← hW4]; exact ((Below.refl _ _).alloc (Nat.le_refl _) _).drew
      have I4 := Lib.hid (show InfoAt W4 W1.heap.size nm 5 p r from infoAt_new (by rw [← hW4]; exact heap_alloc_new W1 _))
      have BX4 := Lib.hid (BX.out.later b4)
      have HB4 := Lib.hid (show B ≤ W4.heap.size from Nat.le_trans (Nat.le_trans hB (Nat.le_of_lt BX.out.size)) b4.size)
      have C5 := Lib.hid (Chain.start ((C1.out.here.later b4).mono (Nat.le_succ k)) (Below.refl W4.heap.size W4))
      have HB14 := Lib.hid b4
      clear hW4 b4 hrun1 hrun2 q0 q1 q2 q3 c9
      have HXB := Lib.hid (show ¬ x.foot cb E W1.heap.size from foot_new C1.out.here)
      obtain ⟨q0, q1, q2, q3⟩ := BX4.out.chain HX.out C5.out
      obtain ⟨i0, i1, i2, i3⟩ := I4.out.chain HXB.out C5.out
      obtain ⟨_, _, cme, _, _, _, _⟩ := C5.out.here.fixed
      rw [HME.out] at cme
      go_wp2_with fail
      refine (want_any false _ B cb E _ _ _ C5.out.here).mono ?_
      rintro e W6 ⟨rfl, u6⟩
      obtain ⟨x6, ch6⟩ := C5.out.next u6
      have C6 := Lib.hid ch6
      clear u6 ch6 q0 q1 q2 q3 i0 i1 i2 i3 cme
      obtain ⟨q0, q1, q2, q3⟩ := BX4.out.chain HX.out C6.out
      obtain ⟨i0, i1, i2, i3⟩ := I4.out.chain HXB.out C6.out
      go_wp2_with fail
      have KEEP := Lib.hid (fun (WR : World) (bR : Below W6.drew.heap.size W6.drew WR) (W7 : World) (u7 : Upd WR B cb E x6 (wantC (wantC c false) (decide (a ≤ reachOf op))) (k + 1) W7) => (show HeldC w.heap.size W1.heap.size op a 5 W7 from by
        obtain ⟨x7, ch7⟩ := (C6.out.later ((Below.refl W6.heap.size W6).drew.trans bR)).next u7
        obtain ⟨g0, g1, _, _⟩ := BX4.out.chain HX.out ch7
        obtain ⟨_, g2, _, _⟩ := I4.out.chain HXB.out ch7
        exact ⟨g0, g1, g2⟩))
      have KR := Lib.hid (fun (WR : World) (bR : Below W6.drew.heap.size W6.drew WR) => (show HeldC w.heap.size W1.heap.size op a 5 WR from by
        obtain ⟨g0, g1, _, _⟩ := BX4.out.chain HX.out (C6.out.later ((Below.refl W6.heap.size W6).drew.trans bR))
        obtain ⟨_, g2, _, _⟩ := I4.out.chain HXB.out (C6.out.later ((Below.refl W6.heap.size W6).drew.trans bR))
        exact ⟨g0, g1, g2⟩))
      have KD := Lib.hid (show HeldC w.heap.size W1.heap.size op a 5 W6.drew from ⟨q0, q1, i1⟩)
      have HRC := Lib.hid (reach_any op HWF.out W6.drew)
      have HWT := Lib.hid (fun (WR : World) (bR : Below W6.drew.heap.size W6.drew WR) => want_any (decide (a ≤ reachOf op)) WR B cb E x6 _ _ (C6.out.here.later ((Below.refl W6.heap.size W6).drew.trans bR)))
      clear q0 q1 q2 q3 i0 i1 i2 i3
      go_region_held3 (fun W => HeldC w.heap.size W1.heap.size op a 5 W) (first | (with_reducible assumption) | (with_reducible exact KD.out)) (first | (go_at_call 112; (with_reducible refine HRC.out.mono ?_); rintro en WR ⟨rfl, bR⟩; have kR := KR.out WR bR) | (go_at_call 109; (with_reducible refine (HWT.out _ (by with_reducible assumption)).mono ?_); rintro en W7 ⟨rfl, u7⟩; have k7 := KEEP.out _ (by with_reducible assumption) W7 u7))
      all_goals
        obtain ⟨x7, ch7⟩ := (C6.out.later ((Below.refl W6.heap.size W6).drew.trans bR)).next u7
        have C7 := Lib.hid ch7
        clear u7 ch7 k7 kR bR
        obtain ⟨i0, i1, i2, i3⟩ := I4.out.chain HXB.out C7.out
        have F7 := Lib.hid ((HF.out.want false).want (decide (a ≤ reachOf op)))
        go_wp2_with fail
        refine (take_any p _ B cb E _ _ _ C7.out.here l0 f F7.out.frames F7.out.height F7.out.stack F7.out.many (by omega)).mono ?_
        rintro e W8 ⟨rfl, u8⟩
        obtain ⟨x8, ch8⟩ := C7.out.next u8
        have C8 := Lib.hid ch8
        have F8 := Lib.hid (F7.out.take p.data.toList)
        clear u8 ch8 i0 i1 i2 i3
        obtain ⟨i0, i1, i2, i3⟩ := I4.out.chain HXB.out C8.out
        go_wp2_with fail
        refine (put_any r _ B cb E _ _ _ C8.out.here (C8.out.size HB4.out) F8.out.stack (by omega)).mono ?_
        rintro e W9 ⟨rfl, u9⟩
        obtain ⟨x9, ch9⟩ := C8.out.next u9
        have C9 := Lib.hid ch9
        clear u9 ch9 i0 i1 i2 i3
        go_wp2_with fail
        go_end0
        exact ⟨rfl, C9.out.upd.after BX4.out.below⟩
  · have hrun1 := hlook W1.drew rfl
    have hrun2 := hlook _ ha2
    change _ = Result.ok (Value.tuple #[.agg #[.string ⟨#[]⟩, .int .i64 0, .string ⟨#[]⟩, .string ⟨#[]⟩], .bool false]) _ at hrun1 hrun2
    have HM := Lib.hid hm
    have HD := Lib.hid hD
    have HNK := Lib.hid hnk
    clear hlook ha2 hm hD hnk
    go_wp2_with fail
    go_region
    all_goals
      go_wp2_with fail
      obtain ⟨W2, hW2⟩ : ∃ W2, (W1.alloc (.cells #[.string ⟨#[]⟩, .int .i64 0, .string ⟨#[]⟩, .string ⟨#[]⟩] 177)).drew = W2 := ⟨_, rfl⟩
      rw [hW2]
      have b2 : Below W1.heap.size W1 W2 := by rw [← hW2]; exact ((Below.refl _ _).alloc (Nat.le_refl _) _).drew
      have hz2 : W2.heap[W1.heap.size]? = some (.cells #[.string ⟨#[]⟩, .int .i64 0, .string ⟨#[]⟩, .string ⟨#[]⟩] 177 (0, 0)) := by rw [← hW2]; exact heap_alloc_new W1 _
      have B2 := Lib.hid b2
      have Z2 := Lib.hid hz2
      clear hW2 b2 hz2 hrun1 hrun2 q0 q1 q2 q3 c9
      refine (HOF.out W2 (HB1.out.trans (B2.out.mono (Nat.le_trans hB (Nat.le_of_lt BX.out.size))))).mono ?_
      rintro e W3 ⟨rfl, b3⟩
      have hz3 : W3.heap[W1.heap.size]? = some (.cells #[.string ⟨#[]⟩, .int .i64 0, .string ⟨#[]⟩, .string ⟨#[]⟩] 177 (0, 0)) := (b3.block _ (Array.getElem?_eq_some_iff.1 Z2.out).1).trans Z2.out
      have z0 : W3.cell? ⟨W1.heap.size, 0, none⟩ = some (.string ⟨#[]⟩) := (cell_of_row W3 _ _ _ _ _ hz3).trans rfl
      have z1 : W3.cell? ⟨W1.heap.size, 1, none⟩ = some (.int .i64 0) := (cell_of_row W3 _ _ _ _ _ hz3).trans rfl
      have z2 : W3.cell? ⟨W1.heap.size, 2, none⟩ = some (.string ⟨#[]⟩) := (cell_of_row W3 _ _ _ _ _ hz3).trans rfl
      have z3 : W3.cell? ⟨W1.heap.size, 3, none⟩ = some (.string ⟨#[]⟩) := (cell_of_row W3 _ _ _ _ _ hz3).trans rfl
      have zf : ∀ j, W3.frozen? ⟨W1.heap.size, j, none⟩ = false := fun j => frozen_of_row W3 _ j _ _ hz3
      have b13 := B2.out.trans (b3.mono B2.out.size)
      have B13 := Lib.hid b13
      have Z3 := Lib.hid hz3
      clear b3 hz3 b13
      go_upto_region 6 with fail
      obtain ⟨W4, hW4⟩ : ∃ W4, (((W3.setCell ⟨W1.heap.size, 0, none⟩ (.string nm)).setCell ⟨W1.heap.size, 1, none⟩ (.int .i64 5)).setCell ⟨W1.heap.size, 2, none⟩ (.string p)).setCell ⟨W1.heap.size, 3, none⟩ (.string r) = W4 := ⟨_, rfl⟩
      rw [hW4]
      have b4 : Below W1.heap.size W1 W4 := by rw [← hW4]; exact (((B13.out.setCell (Nat.le_refl _) _).setCell (Nat.le_refl _) _).setCell (Nat.le_refl _) _).setCell (Nat.le_refl _) _
      have hi4 : W4.heap[W1.heap.size]? = some (.cells #[.string nm, .int .i64 5, .string p, .string r] 177 (0, 0)) := by
        rw [← hW4, box_set (box_set (box_set (box_set Z3.out 0 _) 1 _) 2 _) 3 _]
        rfl
      have i4 : InfoAt W4 W1.heap.size nm 5 p r := infoAt_new hi4
      have I4 := Lib.hid i4
      have BX4 := Lib.hid (BX.out.later b4)
      have HB4 := Lib.hid (show B ≤ W4.heap.size from Nat.le_trans (Nat.le_trans hB (Nat.le_of_lt BX.out.size)) b4.size)
      have C4 := Lib.hid (C1.out.here.later b4)
      have HM4 := Lib.hid (ownsMap_of HM.out (b4.block _ hmb))
      have HB14 := Lib.hid b4
      clear hW4 b4 z0 z1 z2 z3 zf hi4
      obtain ⟨i0, i1, i2, i3⟩ := i4
      obtain ⟨q0, q1, q2, q3⟩ : _ ∧ _ ∧ _ ∧ _ := ⟨BX4.out.q0, BX4.out.q1, BX4.out.q2, BX4.out.q3⟩
      obtain ⟨_, _, _, _, _, _, c9⟩ := C4.out.fixed
      obtain ⟨W5, hrun, hown, hgr⟩ := HM4.out.drew.update (val := .agg #[.string nm, .int .i64 5, .string p, .string r]) keyed_int Tryz.underlying154 (Nat.lt_of_le_of_lt HNK.out hk) (key_int op HWF.out) rfl
      have hok := infos_put HD.out op
      rw [HTV.out] at hok
      have hC5 := (Chain.start C4.out (Below.refl W4.heap.size W4).drew).next ((C4.out.later (Below.refl _ _).drew).setInf hgr hown hok (Nat.succ_le_succ HNK.out))
      have HC5 := Lib.hid hC5
      clear hown hgr hok hC5
      go_wp2_with fail
      go_still_tail 7, (by kernel_rfl)
      change wpList _ _ _ _ _ W4.drew
      go_upto_region 7 with fail
      clear hrun q0 q1 q2 q3 c9 i0 i1 i2 i3
      obtain ⟨x5, ch5⟩ := HC5.out
      have C5 := Lib.hid ch5
      clear ch5
      have HXB := Lib.hid (show ¬ x.foot cb E W1.heap.size from foot_new C1.out.here)
      obtain ⟨q0, q1, q2, q3⟩ := BX4.out.chain HX.out C5.out
      obtain ⟨i0, i1, i2, i3⟩ := I4.out.chain HXB.out C5.out
      obtain ⟨_, _, cme, _, _, _, _⟩ := C5.out.here.fixed
      rw [HME.out] at cme
      go_wp2_with fail
      refine (want_any false _ B cb E _ _ _ C5.out.here).mono ?_
      rintro e W6 ⟨rfl, u6⟩
      obtain ⟨x6, ch6⟩ := C5.out.next u6
      have C6 := Lib.hid ch6
      clear u6 ch6 q0 q1 q2 q3 i0 i1 i2 i3 cme
      obtain ⟨q0, q1, q2, q3⟩ := BX4.out.chain HX.out C6.out
      obtain ⟨i0, i1, i2, i3⟩ := I4.out.chain HXB.out C6.out
      go_wp2_with fail
      have KEEP := Lib.hid (fun (WR : World) (bR : Below W6.drew.heap.size W6.drew WR) (W7 : World) (u7 : Upd WR B cb E x6 (wantC (wantC c false) (decide (a ≤ reachOf op))) (k + 1) W7) => (show HeldC w.heap.size W1.heap.size op a 5 W7 from by
        obtain ⟨x7, ch7⟩ := (C6.out.later ((Below.refl W6.heap.size W6).drew.trans bR)).next u7
        obtain ⟨g0, g1, _, _⟩ := BX4.out.chain HX.out ch7
        obtain ⟨_, g2, _, _⟩ := I4.out.chain HXB.out ch7
        exact ⟨g0, g1, g2⟩))
      have KR := Lib.hid (fun (WR : World) (bR : Below W6.drew.heap.size W6.drew WR) => (show HeldC w.heap.size W1.heap.size op a 5 WR from by
        obtain ⟨g0, g1, _, _⟩ := BX4.out.chain HX.out (C6.out.later ((Below.refl W6.heap.size W6).drew.trans bR))
        obtain ⟨_, g2, _, _⟩ := I4.out.chain HXB.out (C6.out.later ((Below.refl W6.heap.size W6).drew.trans bR))
        exact ⟨g0, g1, g2⟩))
      have KD := Lib.hid (show HeldC w.heap.size W1.heap.size op a 5 W6.drew from ⟨q0, q1, i1⟩)
      have HRC := Lib.hid (reach_any op HWF.out W6.drew)
      have HWT := Lib.hid (fun (WR : World) (bR : Below W6.drew.heap.size W6.drew WR) => want_any (decide (a ≤ reachOf op)) WR B cb E x6 _ _ (C6.out.here.later ((Below.refl W6.heap.size W6).drew.trans bR)))
      clear q0 q1 q2 q3 i0 i1 i2 i3
      go_region_held3 (fun W => HeldC w.heap.size W1.heap.size op a 5 W) (first | (with_reducible assumption) | (with_reducible exact KD.out)) (first | (go_at_call 112; (with_reducible refine HRC.out.mono ?_); rintro en WR ⟨rfl, bR⟩; have kR := KR.out WR bR) | (go_at_call 109; (with_reducible refine (HWT.out _ (by with_reducible assumption)).mono ?_); rintro en W7 ⟨rfl, u7⟩; have k7 := KEEP.out _ (by with_reducible assumption) W7 u7))
      all_goals
        obtain ⟨x7, ch7⟩ := (C6.out.later ((Below.refl W6.heap.size W6).drew.trans bR)).next u7
        have C7 := Lib.hid ch7
        clear u7 ch7 k7 kR bR
        obtain ⟨i0, i1, i2, i3⟩ := I4.out.chain HXB.out C7.out
        have F7 := Lib.hid ((HF.out.want false).want (decide (a ≤ reachOf op)))
        go_wp2_with fail
        refine (take_any p _ B cb E _ _ _ C7.out.here l0 f F7.out.frames F7.out.height F7.out.stack F7.out.many (by omega)).mono ?_
        rintro e W8 ⟨rfl, u8⟩
        obtain ⟨x8, ch8⟩ := C7.out.next u8
        have C8 := Lib.hid ch8
        have F8 := Lib.hid (F7.out.take p.data.toList)
        clear u8 ch8 i0 i1 i2 i3
        obtain ⟨i0, i1, i2, i3⟩ := I4.out.chain HXB.out C8.out
        go_wp2_with fail
        refine (put_any r _ B cb E _ _ _ C8.out.here (C8.out.size HB4.out) F8.out.stack (by omega)).mono ?_
        rintro e W9 ⟨rfl, u9⟩
        obtain ⟨x9, ch9⟩ := C8.out.next u9
        have C9 := Lib.hid ch9
        clear u9 ch9 i0 i1 i2 i3
        go_wp2_with fail
        go_end0
        exact ⟨rfl, C9.out.upd.after BX4.out.below⟩
end Go.Proofs.YtmbgemcddjailaaGreatDoor.Vld
