/-
  VldH, VldI, VldJ, VldK, VldL in one.
-/
import Derived.Test.YtmbgemcddjailaaGreatDoorVldCa
import Derived.Deep.RegionWith
import Derived.Test.YtmbgemcddjailaaGreatDoorVldPl
/- VldH: The checker's small methods in the form that its steps ask for; the first arms of control. No condition beyond what each theorem names. -/
namespace Go.Proofs.YtmbgemcddjailaaGreatDoor.Vld
open Go.RowKit Go.Maps Go.Proofs.YtmbgemcddjailaaGreatDoor.Op Go.Proofs.YtmbgemcddjailaaGreatDoor.Mod
set_option linter.unusedVariables false
theorem strB_data (l : List UInt8) : (strB l).data.toList = l := by simp [strB]
/-- through some calls, from one world on -/
structure Chain (w : World) (B cb : Nat) (E : Ce) (x : Cx) (k : Nat) (W : World) (x' : Cx) (c' : Ck) : Prop where
  here : CkAt W B cb E x' c' k
  foot : ∀ j, x'.foot cb E j → x.foot cb E j ∨ w.heap.size ≤ j
  keeps : Keeps (x.foot cb E) w W
theorem Chain.start {w W : World} {B cb : Nat} {E : Ce} {x : Cx} {c : Ck} {k : Nat} (h : CkAt w B cb E x c k) (hb : Below w.heap.size w W) : Chain w B cb E x k W x c := ⟨h.later hb, fun j hj => .inl hj, .of_below hb⟩
theorem Chain.next {w W W2 : World} {B cb : Nat} {E : Ce} {x x1 : Cx} {c1 c2 : Ck} {k k2 : Nat} (h : Chain w B cb E x k W x1 c1) (u : Upd W B cb E x1 c2 k2 W2) : ∃ x2, Chain w B cb E x k2 W2 x2 c2 := by
  obtain ⟨x2, a2, f2, k2⟩ := u
  exact ⟨x2, a2, fun j hj => (f2 j hj).elim (h.foot j) (fun h1 => .inr (Nat.le_trans h.keeps.size h1)), h.keeps.trans k2 h.foot⟩
theorem Chain.later {w W W2 : World} {B cb : Nat} {E : Ce} {x x1 : Cx} {c1 : Ck} {k : Nat} (h : Chain w B cb E x k W x1 c1) (hb : Below W.heap.size W W2) : Chain w B cb E x k W2 x1 c1 :=
  ⟨h.here.later hb, h.foot, h.keeps.trans (Keeps.of_below (F := x.foot cb E) hb) (fun j hj => .inl hj)⟩
theorem Chain.upd {w W : World} {B cb : Nat} {E : Ce} {x x1 : Cx} {c1 : Ck} {k : Nat} (h : Chain w B cb E x k W x1 c1) : Upd w B cb E x c1 k W := ⟨x1, h.here, h.foot, h.keeps⟩
theorem Chain.size {w W : World} {B cb : Nat} {E : Ce} {x x1 : Cx} {c1 : Ck} {k : Nat} (h : Chain w B cb E x k W x1 c1) (hB : B ≤ w.heap.size) : B ≤ W.heap.size := Nat.le_trans hB h.keeps.size
theorem Chain.cell {w W : World} {B cb : Nat} {E : Ce} {x x1 : Cx} {c1 : Ck} {k : Nat} (h : Chain w B cb E x k W x1 c1) {b j : Nat} {v : Value} (hc : w.cell? ⟨b, j, none⟩ = some v) (hF : ¬ x.foot cb E b) : W.cell? ⟨b, j, none⟩ = some v := h.keeps.cell hc hF
/-- so many stand there, at most -/
structure Few (c : Ck) (l0 : List Fr) (f : Fr) : Prop where
  frames : c.frames = l0 ++ [f]
  height : f.height ≤ c.stack.length
  stack : c.stack.length < 3000000000000
  many : c.frames.length < 3000000000000
theorem Few.less {c c' : Ck} {l0 : List Fr} {f : Fr} (h : Few c l0 f) (l : Less c c' f) : Few c' l0 f := ⟨l.frames.trans h.frames, l.height, Nat.lt_of_le_of_lt l.length h.stack, by rw [l.frames]; exact h.many⟩
theorem Few.take {c : Ck} {l0 : List Fr} {f : Fr} (h : Few c l0 f) (ts : List UInt8) : Few (takeC ts c) l0 f := h.less (.take ts h.frames h.height)
theorem take_l (l : List UInt8) (hz : l.length ≤ 1000000) (w : World) (B cb : Nat) (E : Ce) (x : Cx) (c : Ck) (k : Nat) (h : CkAt w B cb E x c k) (l0 : List Fr) (f : Fr) (hf : Few c l0 f) :
    Calls Tryz.prog 106 #[.pointer (some ⟨cb, 0, none⟩), .string (strB l)] w fun e w' => e = .returned (.tuple #[]) ∧ Upd w B cb E x (takeC l c) k w' := by
  have := take_any (strB l) w B cb E x c k h l0 f hf.frames hf.height hf.stack hf.many (by rw [strB_size]; omega)
  rw [strB_data] at this
  exact this
theorem put_l (l : List UInt8) (hz : l.length ≤ 1000000) (w : World) (B cb : Nat) (E : Ce) (x : Cx) (c : Ck) (k : Nat) (h : CkAt w B cb E x c k) (hB : B ≤ w.heap.size) (hS : c.stack.length < 3000000000000) :
    Calls Tryz.prog 107 #[.pointer (some ⟨cb, 0, none⟩), .string (strB l)] w fun e w' => e = .returned (.tuple #[]) ∧ Upd w B cb E x (putC l c) k w' := by
  have := put_any (strB l) w B cb E x c k h hB hS (by rw [strB_size]; exact hz)
  rw [strB_data] at this
  exact this
theorem shut_f (w : World) (B cb : Nat) (E : Ce) (x : Cx) (c : Ck) (k : Nat) (h : CkAt w B cb E x c k) (hB : B ≤ w.heap.size) (l0 : List Fr) (f : Fr) (hf : Few c l0 f) (hz : f.result.length ≤ 1000000) :
    Calls Tryz.prog 141 #[.pointer (some ⟨cb, 0, none⟩)] w fun e w' => e = .returned (.agg #[.int .i64 f.op, .string (strB f.result), .int .i64 (f.height : Int), .bool f.dead]) ∧ Upd w B cb E x (shutC f c) k w' := by
  obtain ⟨op, r, hh, d⟩ := f
  have := shut_any w B cb E x c k h hB l0 op (strB r) hh d (by rw [strB_data]; exact hf.frames) hf.height hf.stack hf.many (by rw [strB_size]; exact hz)
  rw [strB_data] at this
  exact this
theorem kill_f (w : World) (B cb : Nat) (E : Ce) (x : Cx) (c : Ck) (k : Nat) (h : CkAt w B cb E x c k) (l0 : List Fr) (f : Fr) (hf : Few c l0 f) :
    Calls Tryz.prog 139 #[.pointer (some ⟨cb, 0, none⟩)] w fun e w' => e = .returned (.tuple #[]) ∧ Upd w B cb E x (killC c) k w' := kill_any w B cb E x c k h l0 f hf.frames hf.height hf.stack hf.many
theorem open_any (op a : Int) (ha : a = 64 ∨ a = 127 ∨ a = 126) (w : World) (B cb : Nat) (E : Ce) (x : Cx) (c : Ck) (k : Nat) (h : CkAt w B cb E x c k) (hB : B ≤ w.heap.size) (hS : c.stack.length < 3000000000000) (hF : c.frames.length < 3000000000000) :
    Calls Tryz.prog 140 #[.pointer (some ⟨cb, 0, none⟩), .int .i64 op, .int .i64 a] w fun e w' => e = .returned (.tuple #[]) ∧ Upd w B cb E x (openC op a c) k w' := by
  rcases ha with rfl | rfl | rfl
  · exact open_64 op w B cb E x c k h hB hS hF
  · exact open_ty 127 (.inr rfl) op w B cb E x c k h hB hS hF
  · exact open_ty 126 (.inl rfl) op w B cb E x c k h hB hS hF
theorem foot_new {w : World} {B cb : Nat} {E : Ce} {x : Cx} {c : Ck} {k : Nat} (h : CkAt w B cb E x c k) : ¬ x.foot cb E w.heap.size := fun hf => by have := (h.foot_lt _ hf).2; omega
def insB (op a b : Int) (lv : Value) : Obj := .cells #[.int .i64 op, .int .i64 a, .int .i64 b, lv] 29
/-- the instruction's box, and what came of it -/
structure Boxed (w W : World) (op a b : Int) (lv : Value) : Prop where
  below : Below w.heap.size w W
  size : w.heap.size < W.heap.size
  q0 : W.cell? ⟨w.heap.size, 0, none⟩ = some (.int .i64 op)
  q1 : W.cell? ⟨w.heap.size, 1, none⟩ = some (.int .i64 a)
  q2 : W.cell? ⟨w.heap.size, 2, none⟩ = some (.int .i64 b)
  q3 : W.cell? ⟨w.heap.size, 3, none⟩ = some lv
theorem boxed_ins {w W : World} {op a b : Int} {lv : Value} (hW : w.alloc (insB op a b lv) = W) : Boxed w W op a b lv := by
  subst hW
  exact ⟨(Below.refl _ _).alloc (Nat.le_refl _) _, by simp, World.cell?_alloc_at _ _ _ _ rfl, World.cell?_alloc_at _ _ _ _ rfl, World.cell?_alloc_at _ _ _ _ rfl, World.cell?_alloc_at _ _ _ _ rfl⟩
theorem Boxed.chain {w W1 W : World} {op a b : Int} {lv : Value} {B cb : Nat} {E : Ce} {x x1 : Cx} {c1 : Ck} {k : Nat} (h : Boxed w W1 op a b lv) (hF : ¬ x.foot cb E w.heap.size) (hc : Chain W1 B cb E x k W x1 c1) : W.cell? ⟨w.heap.size, 0, none⟩ = some (.int .i64 op) ∧ W.cell? ⟨w.heap.size, 1, none⟩ = some (.int .i64 a) ∧ W.cell? ⟨w.heap.size, 2, none⟩ = some (.int .i64 b) ∧ W.cell? ⟨w.heap.size, 3, none⟩ = some lv :=
  ⟨hc.cell h.q0 hF, hc.cell h.q1 hF, hc.cell h.q2 hF, hc.cell h.q3 hF⟩
set_option maxRecDepth 100000 in
set_option maxHeartbeats 2000000 in
theorem control_0 (a b : Int) (lv : Value) (w : World) (B cb : Nat) (E : Ce) (x : Cx) (c : Ck) (k : Nat) (h : CkAt w B cb E x c k) (hB : B ≤ w.heap.size) (l0 : List Fr) (f : Fr) (hf : Few c l0 f) :
    Calls Tryz.prog 104 #[.pointer (some ⟨cb, 0, none⟩), .agg #[.int .i64 0, .int .i64 a, .int .i64 b, lv]] w fun e w' => e = .returned (.bool true) ∧ Upd w B cb E x (killC c) k w' := by
  have HF := Lib.hid hf
  have H := Lib.hid h
  have HX := Lib.hid (foot_new h)
  clear h hf
  go_enter Tryz.func104, Tryz.ntmps104
  go_wp2_with fail
  obtain ⟨W1, hW1⟩ : ∃ W1, w.alloc (.cells #[.int .i64 0, .int .i64 a, .int .i64 b, lv] 29) = W1 := ⟨_, rfl⟩
  rw [hW1]
  have BX := Lib.hid (boxed_ins hW1)
  clear hW1
  have C1 := Lib.hid (Chain.start (H.out.later BX.out.below) (Below.refl _ _))
  refine (kill_f _ B cb E _ _ k C1.out.here l0 f HF.out).mono ?_
  rintro e W2 ⟨rfl, u2⟩
  obtain ⟨x2, ch2⟩ := C1.out.next u2
  have C2 := Lib.hid ch2
  obtain ⟨q0, q1, q2, q3⟩ := BX.out.chain HX.out ch2
  clear u2 ch2
  go_wp2_with fail
  go_ret
  exact ⟨rfl, C2.out.upd.after BX.out.below⟩
set_option maxRecDepth 100000 in
set_option maxHeartbeats 2000000 in
theorem control_2 (a b : Int) (lv : Value) (w : World) (B cb : Nat) (E : Ce) (x : Cx) (c : Ck) (k : Nat) (h : CkAt w B cb E x c k) (hB : B ≤ w.heap.size) (l0 : List Fr) (f : Fr) (hf : Few c l0 f) (ha : a = 64 ∨ a = 127 ∨ a = 126) :
    Calls Tryz.prog 104 #[.pointer (some ⟨cb, 0, none⟩), .agg #[.int .i64 2, .int .i64 a, .int .i64 b, lv]] w fun e w' => e = .returned (.bool true) ∧ Upd w B cb E x (openC 2 a c) k w' := by
  have HA := Lib.hid ha
  clear ha
  have HF := Lib.hid hf
  have H := Lib.hid h
  have HX := Lib.hid (foot_new h)
  clear h hf
  go_enter Tryz.func104, Tryz.ntmps104
  go_wp2_with fail
  obtain ⟨W1, hW1⟩ : ∃ W1, w.alloc (.cells #[.int .i64 2, .int .i64 a, .int .i64 b, lv] 29) = W1 := ⟨_, rfl⟩
  rw [hW1]
  have BX := Lib.hid (boxed_ins hW1)
  clear hW1
  have C1 := Lib.hid (Chain.start (H.out.later BX.out.below) (Below.refl _ _))
  refine (open_any 2 a HA.out _ B cb E _ _ k C1.out.here (C1.out.size (Nat.le_trans hB (Nat.le_of_lt BX.out.size))) HF.out.stack HF.out.many).mono ?_
  rintro e W2 ⟨rfl, u2⟩
  obtain ⟨x2, ch2⟩ := C1.out.next u2
  have C2 := Lib.hid ch2
  obtain ⟨q0, q1, q2, q3⟩ := BX.out.chain HX.out ch2
  clear u2 ch2
  go_wp2_with fail
  go_ret
  exact ⟨rfl, C2.out.upd.after BX.out.below⟩
set_option maxRecDepth 100000 in
set_option maxHeartbeats 2000000 in
theorem control_3 (a b : Int) (lv : Value) (w : World) (B cb : Nat) (E : Ce) (x : Cx) (c : Ck) (k : Nat) (h : CkAt w B cb E x c k) (hB : B ≤ w.heap.size) (l0 : List Fr) (f : Fr) (hf : Few c l0 f) (ha : a = 64 ∨ a = 127 ∨ a = 126) :
    Calls Tryz.prog 104 #[.pointer (some ⟨cb, 0, none⟩), .agg #[.int .i64 3, .int .i64 a, .int .i64 b, lv]] w fun e w' => e = .returned (.bool true) ∧ Upd w B cb E x (openC 3 a c) k w' := by
  have HA := Lib.hid ha
  clear ha
  have HF := Lib.hid hf
  have H := Lib.hid h
  have HX := Lib.hid (foot_new h)
  clear h hf
  go_enter Tryz.func104, Tryz.ntmps104
  go_wp2_with fail
  obtain ⟨W1, hW1⟩ : ∃ W1, w.alloc (.cells #[.int .i64 3, .int .i64 a, .int .i64 b, lv] 29) = W1 := ⟨_, rfl⟩
  rw [hW1]
  have BX := Lib.hid (boxed_ins hW1)
  clear hW1
  have C1 := Lib.hid (Chain.start (H.out.later BX.out.below) (Below.refl _ _))
  refine (open_any 3 a HA.out _ B cb E _ _ k C1.out.here (C1.out.size (Nat.le_trans hB (Nat.le_of_lt BX.out.size))) HF.out.stack HF.out.many).mono ?_
  rintro e W2 ⟨rfl, u2⟩
  obtain ⟨x2, ch2⟩ := C1.out.next u2
  have C2 := Lib.hid ch2
  obtain ⟨q0, q1, q2, q3⟩ := BX.out.chain HX.out ch2
  clear u2 ch2
  go_wp2_with fail
  go_ret
  exact ⟨rfl, C2.out.upd.after BX.out.below⟩
set_option maxRecDepth 100000 in
set_option maxHeartbeats 2000000 in
theorem control_4 (a b : Int) (lv : Value) (w : World) (B cb : Nat) (E : Ce) (x : Cx) (c : Ck) (k : Nat) (h : CkAt w B cb E x c k) (hB : B ≤ w.heap.size) (l0 : List Fr) (f : Fr) (hf : Few c l0 f) (ha : a = 64 ∨ a = 127 ∨ a = 126) :
    Calls Tryz.prog 104 #[.pointer (some ⟨cb, 0, none⟩), .agg #[.int .i64 4, .int .i64 a, .int .i64 b, lv]] w fun e w' => e = .returned (.bool true) ∧ Upd w B cb E x (openC 4 a (takeC [127] c)) k w' := by
  have HA := Lib.hid ha
  clear ha
  have HF := Lib.hid hf
  have H := Lib.hid h
  have HX := Lib.hid (foot_new h)
  clear h hf
  go_enter Tryz.func104, Tryz.ntmps104
  go_wp2_with fail
  obtain ⟨W1, hW1⟩ : ∃ W1, w.alloc (.cells #[.int .i64 4, .int .i64 a, .int .i64 b, lv] 29) = W1 := ⟨_, rfl⟩
  rw [hW1]
  have BX := Lib.hid (boxed_ins hW1)
  clear hW1
  have C1 := Lib.hid (Chain.start (H.out.later BX.out.below) (Below.refl _ _))
  refine (take_l [127] (by decide) _ B cb E _ _ k C1.out.here l0 f HF.out).mono ?_
  rintro e W2 ⟨rfl, u2⟩
  obtain ⟨x2, ch2⟩ := C1.out.next u2
  have C2 := Lib.hid ch2
  obtain ⟨q0, q1, q2, q3⟩ := BX.out.chain HX.out ch2
  clear u2 ch2
  have F2 := Lib.hid (HF.out.take [127])
  go_wp2_with fail
  refine (open_any 4 a HA.out _ B cb E _ _ k C2.out.here (C2.out.size (Nat.le_trans hB (Nat.le_of_lt BX.out.size))) F2.out.stack F2.out.many).mono ?_
  rintro e W3 ⟨rfl, u3⟩
  obtain ⟨x3, ch3⟩ := C2.out.next u3
  have C3 := Lib.hid ch3
  obtain ⟨q0, q1, q2, q3⟩ := BX.out.chain HX.out ch3
  clear u3 ch3
  go_wp2_with fail
  go_ret
  exact ⟨rfl, C3.out.upd.after BX.out.below⟩
theorem labelC_frames (n : Nat) (c : Ck) : (labelC n c).1.frames = c.frames ∧ (labelC n c).1.stack = c.stack := by
  unfold labelC orBad
  split <;> exact ⟨rfl, rfl⟩
theorem Few.label {c : Ck} {l0 : List Fr} {f : Fr} (h : Few c l0 f) (n : Nat) : Few (labelC n c).1 l0 f := by
  obtain ⟨h1, h2⟩ := labelC_frames n c
  exact ⟨h1.trans h.frames, by rw [h2]; exact h.height, by rw [h2]; exact h.stack, by rw [h1]; exact h.many⟩
/-- no result is long -/
def Thin (c : Ck) : Prop := ∀ f ∈ c.frames, f.result.length ≤ 1
theorem Thin.label {c : Ck} (h : Thin c) (n : Nat) : (labelC n c).2.length ≤ 1 := by
  unfold labelC labelL orBad
  split
  · rename_i t ht
    split at ht
    · rw [Option.map_eq_some_iff] at ht
      obtain ⟨f, hf, rfl⟩ := ht
      unfold labelF
      split
      · exact Nat.zero_le _
      · exact h f (List.mem_of_getElem? hf)
    · cases ht
  · exact Nat.zero_le _
theorem Thin.of {c c' : Ck} (h : Thin c) (hf : c'.frames = c.frames) : Thin c' := fun f hm => h f (hf ▸ hm)
theorem take_frames {c : Ck} {l0 : List Fr} {f : Fr} (h : Few c l0 f) (ts : List UInt8) : (takeC ts c).frames = c.frames := (Less.take ts h.frames h.height).frames
set_option maxRecDepth 100000 in
set_option maxHeartbeats 2000000 in
theorem control_12 (a b : Int) (lv : Value) (w : World) (B cb : Nat) (E : Ce) (x : Cx) (c : Ck) (k : Nat) (h : CkAt w B cb E x c k) (hB : B ≤ w.heap.size) (l0 : List Fr) (f : Fr) (hf : Few c l0 f) (n : Nat) (hn : n < 4294967296) (han : a = (n : Int)) (ht : Thin c) :
    Calls Tryz.prog 104 #[.pointer (some ⟨cb, 0, none⟩), .agg #[.int .i64 12, .int .i64 a, .int .i64 b, lv]] w fun e w' => e = .returned (.bool true) ∧ Upd w B cb E x (killC (takeC (labelC n c).2 (labelC n c).1)) k w' := by
  subst han
  have HTH := Lib.hid ht
  clear ht
  have HF := Lib.hid hf
  have H := Lib.hid h
  have HX := Lib.hid (foot_new h)
  clear h hf
  go_enter Tryz.func104, Tryz.ntmps104
  go_wp2_with fail
  obtain ⟨W1, hW1⟩ : ∃ W1, w.alloc (.cells #[.int .i64 12, .int .i64 (n : Int), .int .i64 b, lv] 29) = W1 := ⟨_, rfl⟩
  rw [hW1]
  have BX := Lib.hid (boxed_ins hW1)
  clear hW1
  have C1 := Lib.hid (Chain.start (H.out.later BX.out.below) (Below.refl _ _))
  refine (label_any n hn _ B cb E _ _ k C1.out.here HF.out.many).mono ?_
  rintro e W2 ⟨rfl, u2⟩
  obtain ⟨x2, ch2⟩ := C1.out.next u2
  have C2 := Lib.hid ch2
  obtain ⟨q0, q1, q2, q3⟩ := BX.out.chain HX.out ch2
  clear u2 ch2
  have F2 := Lib.hid (HF.out.label n)
  have L2 := Lib.hid (HTH.out.label n)
  go_wp2_with fail
  refine (take_l (labelC n c).2 (by have := L2.out; omega) _ B cb E _ _ k C2.out.here l0 f F2.out).mono ?_
  rintro e W3 ⟨rfl, u3⟩
  obtain ⟨x3, ch3⟩ := C2.out.next u3
  have C3 := Lib.hid ch3
  obtain ⟨q0, q1, q2, q3⟩ := BX.out.chain HX.out ch3
  clear u3 ch3
  have F3 := Lib.hid (F2.out.take (labelC n c).2)
  go_wp2_with fail
  refine (kill_f _ B cb E _ _ k C3.out.here l0 f F3.out).mono ?_
  rintro e W4 ⟨rfl, u4⟩
  obtain ⟨x4, ch4⟩ := C3.out.next u4
  have C4 := Lib.hid ch4
  obtain ⟨q0, q1, q2, q3⟩ := BX.out.chain HX.out ch4
  clear u4 ch4
  go_wp2_with fail
  go_ret
  exact ⟨rfl, C4.out.upd.after BX.out.below⟩
set_option maxRecDepth 100000 in
set_option maxHeartbeats 2000000 in
theorem control_13 (a b : Int) (lv : Value) (w : World) (B cb : Nat) (E : Ce) (x : Cx) (c : Ck) (k : Nat) (h : CkAt w B cb E x c k) (hB : B ≤ w.heap.size) (l0 : List Fr) (f : Fr) (hf : Few c l0 f) (n : Nat) (hn : n < 4294967296) (han : a = (n : Int)) (ht : Thin c) :
    Calls Tryz.prog 104 #[.pointer (some ⟨cb, 0, none⟩), .agg #[.int .i64 13, .int .i64 a, .int .i64 b, lv]] w fun e w' => e = .returned (.bool true) ∧ Upd w B cb E x (putC (labelC n (takeC [127] c)).2 (takeC (labelC n (takeC [127] c)).2 (labelC n (takeC [127] c)).1)) k w' := by
  subst han
  have HTH := Lib.hid ht
  clear ht
  have HF := Lib.hid hf
  have H := Lib.hid h
  have HX := Lib.hid (foot_new h)
  clear h hf
  go_enter Tryz.func104, Tryz.ntmps104
  go_wp2_with fail
  obtain ⟨W1, hW1⟩ : ∃ W1, w.alloc (.cells #[.int .i64 13, .int .i64 (n : Int), .int .i64 b, lv] 29) = W1 := ⟨_, rfl⟩
  rw [hW1]
  have BX := Lib.hid (boxed_ins hW1)
  clear hW1
  have C1 := Lib.hid (Chain.start (H.out.later BX.out.below) (Below.refl _ _))
  refine (take_l [127] (by decide) _ B cb E _ _ k C1.out.here l0 f HF.out).mono ?_
  rintro e W2 ⟨rfl, u2⟩
  obtain ⟨x2, ch2⟩ := C1.out.next u2
  have C2 := Lib.hid ch2
  obtain ⟨q0, q1, q2, q3⟩ := BX.out.chain HX.out ch2
  clear u2 ch2
  have F2 := Lib.hid (HF.out.take [127])
  have T2 := Lib.hid (HTH.out.of (take_frames HF.out [127]))
  go_wp2_with fail
  refine (label_any n hn _ B cb E _ _ k C2.out.here F2.out.many).mono ?_
  rintro e W3 ⟨rfl, u3⟩
  obtain ⟨x3, ch3⟩ := C2.out.next u3
  have C3 := Lib.hid ch3
  obtain ⟨q0, q1, q2, q3⟩ := BX.out.chain HX.out ch3
  clear u3 ch3
  have F3 := Lib.hid (F2.out.label n)
  have L3 := Lib.hid (T2.out.label n)
  go_wp2_with fail
  refine (take_l (labelC n (takeC [127] c)).2 (by have := L3.out; omega) _ B cb E _ _ k C3.out.here l0 f F3.out).mono ?_
  rintro e W4 ⟨rfl, u4⟩
  obtain ⟨x4, ch4⟩ := C3.out.next u4
  have C4 := Lib.hid ch4
  obtain ⟨q0, q1, q2, q3⟩ := BX.out.chain HX.out ch4
  clear u4 ch4
  have F4 := Lib.hid (F3.out.take (labelC n (takeC [127] c)).2)
  go_wp2_with fail
  refine (put_l (labelC n (takeC [127] c)).2 (by have := L3.out; omega) _ B cb E _ _ k C4.out.here (C4.out.size (Nat.le_trans hB (Nat.le_of_lt BX.out.size))) F4.out.stack).mono ?_
  rintro e W5 ⟨rfl, u5⟩
  obtain ⟨x5, ch5⟩ := C4.out.next u5
  have C5 := Lib.hid ch5
  obtain ⟨q0, q1, q2, q3⟩ := BX.out.chain HX.out ch5
  clear u5 ch5
  go_wp2_with fail
  go_ret
  exact ⟨rfl, C5.out.upd.after BX.out.below⟩
set_option maxRecDepth 100000 in
set_option maxHeartbeats 2000000 in
theorem control_15 (a b : Int) (lv : Value) (w : World) (B cb : Nat) (E : Ce) (x : Cx) (c : Ck) (k : Nat) (h : CkAt w B cb E x c k) (hB : B ≤ w.heap.size) (l0 : List Fr) (f : Fr) (hf : Few c l0 f) (hr : E.result.size ≤ 1000000) :
    Calls Tryz.prog 104 #[.pointer (some ⟨cb, 0, none⟩), .agg #[.int .i64 15, .int .i64 a, .int .i64 b, lv]] w fun e w' => e = .returned (.bool true) ∧ Upd w B cb E x (killC (takeC E.result.data.toList c)) k w' := by
  obtain ⟨_, _, _, _, _, c8, _⟩ := h.fixed
  have hcb := h.lt
  have HF := Lib.hid hf
  have H := Lib.hid h
  have HX := Lib.hid (foot_new h)
  clear h hf
  go_enter Tryz.func104, Tryz.ntmps104
  go_wp2_with fail
  obtain ⟨W1, hW1⟩ : ∃ W1, w.alloc (.cells #[.int .i64 15, .int .i64 a, .int .i64 b, lv] 29) = W1 := ⟨_, rfl⟩
  rw [hW1]
  have BX := Lib.hid (boxed_ins hW1)
  clear hW1
  have C1 := Lib.hid (Chain.start (H.out.later BX.out.below) (Below.refl _ _))
  refine (take_any E.result _ B cb E _ _ k C1.out.here l0 f HF.out.frames HF.out.height HF.out.stack HF.out.many (by omega)).mono ?_
  rintro e W2 ⟨rfl, u2⟩
  obtain ⟨x2, ch2⟩ := C1.out.next u2
  have C2 := Lib.hid ch2
  obtain ⟨q0, q1, q2, q3⟩ := BX.out.chain HX.out ch2
  clear u2 ch2
  have F2 := Lib.hid (HF.out.take E.result.data.toList)
  go_wp2_with fail
  refine (kill_f _ B cb E _ _ k C2.out.here l0 f F2.out).mono ?_
  rintro e W3 ⟨rfl, u3⟩
  obtain ⟨x3, ch3⟩ := C2.out.next u3
  have C3 := Lib.hid ch3
  obtain ⟨q0, q1, q2, q3⟩ := BX.out.chain HX.out ch3
  clear u3 ch3
  go_wp2_with fail
  go_ret
  exact ⟨rfl, C3.out.upd.after BX.out.below⟩
set_option maxRecDepth 100000 in
set_option maxHeartbeats 2000000 in
theorem control_no (op a b : Int) (lv : Value) (w : World) (cb : Nat) (e0 : (op == 0) = false) (e2 : (op == 2) = false) (e3 : (op == 3) = false) (e4 : (op == 4) = false) (e5 : (op == 5) = false) (e11 : (op == 11) = false) (e12 : (op == 12) = false) (e13 : (op == 13) = false) (e14 : (op == 14) = false) (e15 : (op == 15) = false) :
    Calls Tryz.prog 104 #[.pointer (some ⟨cb, 0, none⟩), .agg #[.int .i64 op, .int .i64 a, .int .i64 b, lv]] w fun e w' => e = .returned (.bool false) ∧ Below w.heap.size w w' := by
  go_enter Tryz.func104, Tryz.ntmps104
  go_wp2_with fail
  go_ret
  exact ⟨rfl, (Below.refl _ _).alloc (Nat.le_refl _) _⟩
end Go.Proofs.YtmbgemcddjailaaGreatDoor.Vld

/- VldI: The arms else and end of the checker's control. No condition beyond what each theorem names. -/
namespace Go.Proofs.YtmbgemcddjailaaGreatDoor.Vld
open Go.RowKit Go.Maps Go.Proofs.YtmbgemcddjailaaGreatDoor.Op Go.Proofs.YtmbgemcddjailaaGreatDoor.Mod
set_option linter.unusedVariables false
/-- a frame stored over the innermost one -/
theorem CkAt.over {w : World} {B cb : Nat} {E : Ce} {x : Cx} {c : Ck} {k : Nat} (h : CkAt w B cb E x c k) {g : Nat} (hg : x.fv.ownBlock = some g) {l0 : List Fr} {f : Fr} (hs : c.frames = l0 ++ [f]) (f' : Fr) :
    Upd w B cb E x { c with frames := l0 ++ [f'] } k ((((w.setCell ⟨g, l0.length * 4, none⟩ (.int .i64 f'.op)).setCell ⟨g, l0.length * 4 + 1, none⟩ (.string (strB f'.result))).setCell ⟨g, l0.length * 4 + 2, none⟩ (.int .i64 (f'.height : Int))).setCell ⟨g, l0.length * 4 + 3, none⟩ (.bool f'.dead)) := by
  obtain ⟨h1, k1⟩ := h.inFrm hg (l0.length * 4) (.int .i64 f'.op) (l := l0 ++ [{ f with op := f'.op }]) (by simp [hs]) (by simp [hs]) (by rw [hs]; exact frameV_last l0 f _ 0 _ (by decide) rfl)
  obtain ⟨h2, k2⟩ := h1.inFrm hg (l0.length * 4 + 1) (.string (strB f'.result)) (l := l0 ++ [{ f with op := f'.op, result := f'.result }]) (by simp) (by simp) (frameV_last l0 { f with op := f'.op } _ 1 _ (by decide) rfl)
  obtain ⟨h3, k3⟩ := h2.inFrm hg (l0.length * 4 + 2) (.int .i64 (f'.height : Int)) (l := l0 ++ [{ f with op := f'.op, result := f'.result, height := f'.height }]) (by simp) (by simp) (frameV_last l0 { f with op := f'.op, result := f'.result } _ 2 _ (by decide) rfl)
  obtain ⟨h4, k4⟩ := h3.inFrm hg (l0.length * 4 + 3) (.bool f'.dead) (l := l0 ++ [f']) (by simp) (by simp) (frameV_last l0 { f with op := f'.op, result := f'.result, height := f'.height } f' 3 _ (by decide) rfl)
  exact ⟨x, h4, fun j hj => .inl hj, ((k1.trans k2 (fun j hj => .inl hj)).trans k3 (fun j hj => .inl hj)).trans k4 (fun j hj => .inl hj)⟩
theorem Few.shut {c : Ck} {l0 : List Fr} {f : Fr} (h : Few c l0 f) : Few (shutC f c) l0 f := by
  have h1 := h.take f.result
  rw [shut_eq2]
  refine ⟨h1.frames, ?_, ?_, h1.many⟩
  · show f.height ≤ (List.take _ _).length
    rw [List.length_take]
    have := h1.height
    omega
  · show (List.take _ _).length < _
    rw [List.length_take]
    have := h1.stack
    omega
set_option maxRecDepth 100000 in
set_option maxHeartbeats 4000000 in
theorem control_5 (a b : Int) (lv : Value) (w : World) (B cb : Nat) (E : Ce) (x : Cx) (c : Ck) (k : Nat) (h : CkAt w B cb E x c k) (hB : B ≤ w.heap.size) (l0 : List Fr) (f : Fr) (hf : Few c l0 f) (ht : f.result.length ≤ 1000000) :
    Calls Tryz.prog 104 #[.pointer (some ⟨cb, 0, none⟩), .agg #[.int .i64 5, .int .i64 a, .int .i64 b, lv]] w fun e w' => e = .returned (.bool true) ∧ Upd w B cb E x { shutC f c with frames := l0 ++ [{ f with op := 5, dead := false }] } k w' := by
  obtain ⟨fo, fr, fh, fd⟩ := f
  have F2 := Lib.hid hf.shut
  obtain ⟨c2, hc2⟩ : ∃ c2, shutC ⟨fo, fr, fh, fd⟩ c = c2 := ⟨_, rfl⟩
  rw [hc2] at F2 ⊢
  have HC2 := Lib.hid hc2
  have HF := Lib.hid hf
  have H := Lib.hid h
  have HX := Lib.hid (foot_new h)
  clear h hf hc2
  go_enter Tryz.func104, Tryz.ntmps104
  go_wp2_with fail
  obtain ⟨W1, hW1⟩ : ∃ W1, w.alloc (.cells #[.int .i64 5, .int .i64 a, .int .i64 b, lv] 29) = W1 := ⟨_, rfl⟩
  rw [hW1]
  have BX := Lib.hid (boxed_ins hW1)
  clear hW1
  have C1 := Lib.hid (Chain.start (H.out.later BX.out.below) (Below.refl _ _))
  refine (shut_f _ B cb E _ _ k C1.out.here (C1.out.size (Nat.le_trans hB (Nat.le_of_lt BX.out.size))) l0 _ HF.out ht).mono ?_
  rintro e W2 ⟨rfl, u2⟩
  obtain ⟨x2, ch2⟩ := C1.out.next u2
  rw [HC2.out] at ch2
  have C2 := Lib.hid ch2
  clear u2 ch2
  go_wp2_with fail
  obtain ⟨W3, hW3⟩ : ∃ W3, W2.alloc (.cells #[.int .i64 5, .string (strB fr), .int .i64 (fh : Int), .bool false] 156) = W3 := ⟨_, rfl⟩
  rw [hW3]
  have b3 : Below W2.heap.size W2 W3 := by rw [← hW3]; exact (Below.refl _ _).alloc (Nat.le_refl _) _
  have C3 := Lib.hid (C2.out.later b3)
  have p0 : W3.cell? ⟨W2.heap.size, 0, none⟩ = some (.int .i64 5) := by rw [← hW3]; exact World.cell?_alloc_at _ _ _ _ rfl
  have p1 : W3.cell? ⟨W2.heap.size, 1, none⟩ = some (.string (strB fr)) := by rw [← hW3]; exact World.cell?_alloc_at _ _ _ _ rfl
  have p2 : W3.cell? ⟨W2.heap.size, 2, none⟩ = some (.int .i64 (fh : Int)) := by rw [← hW3]; exact World.cell?_alloc_at _ _ _ _ rfl
  have p3 : W3.cell? ⟨W2.heap.size, 3, none⟩ = some (.bool false) := by rw [← hW3]; exact World.cell?_alloc_at _ _ _ _ rfl
  have s3 : W2.heap.size < W3.heap.size := by rw [← hW3]; simp
  have P0 := Lib.hid p0
  have P1 := Lib.hid p1
  have P2 := Lib.hid p2
  have P3 := Lib.hid p3
  obtain ⟨g, fcap, hv, hfc, hgl, d0, d1, d2, d3, ffz⟩ := C3.out.here.lastFrm F2.out.frames
  have hll : l0.length < 3000000000000 := by have := F2.out.many; rw [F2.out.frames] at this; simp at this; omega
  have HT := Lib.hid (fun W (hb : Below W3.heap.size W3 W) => top_any W B cb E x2 c2 k (C3.out.here.later hb) g l0.length fcap hv hll)
  have HG := Lib.hid (show x2.fv.ownBlock = some g by rw [hv]; rfl)
  have D0 := Lib.hid d0
  have D1 := Lib.hid d1
  have D2 := Lib.hid d2
  have D3 := Lib.hid d3
  have DF := Lib.hid ffz
  have HGL := Lib.hid hgl
  clear hW3 b3 d0 d1 d2 d3 ffz hv hgl hfc
  go_region_with (go_at_call 142; refine (HT.out _ ?_).mono ?_; (first | exact (Below.refl _ _).drew | exact Below.refl _ _); rintro e W4 ⟨rfl, b4⟩; have b4' : Below W3.heap.size W3 W4 := (Below.refl W3.heap.size W3).drew.trans b4; have q0 := cell_later b4' P0.out; have q1 := cell_later b4' P1.out; have q2 := cell_later b4' P2.out; have q3 := cell_later b4' P3.out; have e0 := cell_later b4' D0.out; have e1 := cell_later b4' D1.out; have e2 := cell_later b4' D2.out; have e3 := cell_later b4' D3.out; have ef : ∀ j, W4.frozen? ⟨g, j, none⟩ = false := fun j => (b4'.frozen (p := ⟨g, j, none⟩) HGL.out).trans (DF.out j))
  all_goals
    obtain ⟨x6, ch6⟩ := (C3.out.later b4').next ((C3.out.later b4').here.over HG.out F2.out.frames ⟨5, fr, fh, false⟩)
    have C6 := Lib.hid ch6
    clear ch6 b4 b4' q0 q1 q2 q3 e0 e1 e2 e3 ef
    go_wp2_with fail
    go_ret
    exact ⟨rfl, C6.out.upd.after BX.out.below⟩
end Go.Proofs.YtmbgemcddjailaaGreatDoor.Vld

/- VldJ: The arm end of the checker's control. No condition beyond what each theorem names. -/
namespace Go.Proofs.YtmbgemcddjailaaGreatDoor.Vld
open Go.RowKit Go.Maps Go.Proofs.YtmbgemcddjailaaGreatDoor.Op Go.Proofs.YtmbgemcddjailaaGreatDoor.Mod
set_option linter.unusedVariables false
/-- the innermost frame is gone -/
theorem CkAt.less {w : World} {B cb : Nat} {E : Ce} {x : Cx} {c : Ck} {k : Nat} (h : CkAt w B cb E x c k) {g cap : Nat} {l0 : List Fr} {f : Fr} (hx : x.fv = .slice (some ⟨g, 0, none⟩) (l0.length + 1) cap) (hs : c.frames = l0 ++ [f]) : Upd w B cb E x { c with frames := l0 } k (w.setCell ⟨cb, 11, none⟩ (.slice (some ⟨g, 0, none⟩) l0.length cap)) := by
  have h1 := frames_cut h (a := some ⟨g, 0, none⟩) (cap := cap) (m := l0.length) (by rw [hx, hs]; simp) (by rw [hs]; simp)
  rw [show c.frames.take l0.length = l0 by rw [hs]; simp] at h1
  exact h1
def endC (f : Fr) (l0 : List Fr) (c2 : Ck) : Ck := putC f.result { wantC c2 (f.op != 4 || f.result.isEmpty) with frames := l0 }
set_option maxRecDepth 100000 in
set_option maxHeartbeats 4000000 in
theorem control_11 (a b : Int) (lv : Value) (w : World) (B cb : Nat) (E : Ce) (x : Cx) (c : Ck) (k : Nat) (h : CkAt w B cb E x c k) (hB : B ≤ w.heap.size) (l0 : List Fr) (f : Fr) (hf : Few c l0 f) (ht : f.result.length ≤ 1000000) (four : Bool) (h4 : (f.op == 4) = four) :
    Calls Tryz.prog 104 #[.pointer (some ⟨cb, 0, none⟩), .agg #[.int .i64 11, .int .i64 a, .int .i64 b, lv]] w fun e w' => e = .returned (.bool true) ∧ Upd w B cb E x (endC f l0 (shutC f c)) k w' := by
  obtain ⟨fo, fr, fh, fd⟩ := f
  have F2 := Lib.hid hf.shut
  obtain ⟨c2, hc2⟩ : ∃ c2, shutC ⟨fo, fr, fh, fd⟩ c = c2 := ⟨_, rfl⟩
  obtain ⟨ok, hok⟩ : ∃ ok, (fo != 4 || fr.isEmpty) = ok := ⟨_, rfl⟩
  have hend : endC ⟨fo, fr, fh, fd⟩ l0 c2 = putC fr { wantC c2 ok with frames := l0 } := by unfold endC; dsimp only; rw [hok]
  rw [hc2] at F2 ⊢
  rw [hend]
  have HC2 := Lib.hid hc2
  have HF := Lib.hid hf
  have H := Lib.hid h
  have HX := Lib.hid (foot_new h)
  have hfo : (fo == 4) = four := h4
  have hes : ((strB fr).toList.isEmpty) = fr.isEmpty := by rw [ByteArray.toList_eq, strB_data]
  have hcb := h.lt
  have HCB := Lib.hid (show cb ≠ w.heap.size by omega)
  clear h hf hc2 h4 hend
  have key : ∀ ok', (fo != 4 || fr.isEmpty) = ok' → ok' = ok := fun ok' h => h.symm.trans hok
  cases four
  · obtain rfl : ok = true := by rw [← hok]; simp [bne, hfo]
    have hfo2 : (fo != 4) = true := by simp [bne, hfo]
    clear hes key hok
    go_enter Tryz.func104, Tryz.ntmps104
    go_wp2_with fail
    obtain ⟨W1, hW1⟩ : ∃ W1, w.alloc (.cells #[.int .i64 11, .int .i64 a, .int .i64 b, lv] 29) = W1 := ⟨_, rfl⟩
    rw [hW1]
    have BX := Lib.hid (boxed_ins hW1)
    clear hW1
    have C1 := Lib.hid (Chain.start (H.out.later BX.out.below) (Below.refl _ _))
    refine (shut_f _ B cb E _ _ k C1.out.here (C1.out.size (Nat.le_trans hB (Nat.le_of_lt BX.out.size))) l0 _ HF.out ht).mono ?_
    rintro e W2 ⟨rfl, u2⟩
    obtain ⟨x2, ch2⟩ := C1.out.next u2
    rw [HC2.out] at ch2
    have C2 := Lib.hid ch2
    clear u2 ch2
    have HX2 := Lib.hid (foot_new C2.out.here)
    obtain ⟨W3, hW3⟩ : ∃ W3, W2.alloc (.cells #[.int .i64 fo, .string (strB fr), .int .i64 (fh : Int), .bool fd] 156) = W3 := ⟨_, rfl⟩
    have b3 : Below W2.heap.size W2 W3 := by rw [← hW3]; exact (Below.refl _ _).alloc (Nat.le_refl _) _
    have C3 := Lib.hid (Chain.start (C2.out.here.later b3) (Below.refl _ _))
    have B3 := Lib.hid b3
    have p0 : W3.cell? ⟨W2.heap.size, 0, none⟩ = some (.int .i64 fo) := by rw [← hW3]; exact World.cell?_alloc_at _ _ _ _ rfl
    have p1 : W3.cell? ⟨W2.heap.size, 1, none⟩ = some (.string (strB fr)) := by rw [← hW3]; exact World.cell?_alloc_at _ _ _ _ rfl
    have P1 := Lib.hid p1
    clear b3
    go_wp2_with fail
    clear hW3
    refine (want_any true W3 B cb E _ _ k C3.out.here).mono ?_
    rintro e W4 ⟨rfl, u4⟩
    obtain ⟨x4, ch4⟩ := C3.out.next u4
    have q1 := ch4.cell P1.out HX2.out
    have hs4 : (wantC c2 true).frames = l0 ++ [⟨fo, fr, fh, fd⟩] := F2.out.frames
    have hst4 : (wantC c2 true).stack.length < 3000000000000 := F2.out.stack
    obtain ⟨g, fcap, hv, hfc, hgl, _, _, _, _, _⟩ := ch4.here.lastFrm hs4
    have hll : l0.length < 3000000000000 := by have := F2.out.many; rw [F2.out.frames] at this; simp at this; omega
    have hll1 : l0.length ≤ fcap := by omega
    obtain ⟨_, c11, _⟩ := ch4.here.cells
    rw [hv] at c11
    have fz := ch4.here.frozen 11
    have FZ := Lib.hid fz
    have C11 := Lib.hid c11
    have Q1 := Lib.hid q1
    have HU := Lib.hid ((ch4.here.later (Below.refl _ _).drew).less hv hs4)
    have C4 := Lib.hid ch4
    have hsl := cut_frames (some ⟨g, 0, none⟩) (l0.length + 1) fcap l0.length hll1
    have hwl : IntKind.i64.wrap (l0.length : Int) = (l0.length : Int) := IntWalk.i64_in _ (by omega)
    clear u4 ch4 hv hfc hgl fz p0 p1
    go_wp2_with fail
    go_still_tail 14, (by kernel_rfl)
    change wpList _ _ _ _ _ W4.drew
    have c11d : W4.drew.cell? ⟨cb, 11, none⟩ = some (.slice (some ⟨g, 0, none⟩) (l0.length + 1) fcap) := C11.out
    have fzd : W4.frozen? ⟨cb, 11, none⟩ = false := FZ.out
    clear c11
    obtain ⟨x5, a5, f5, k5⟩ := HU.out
    have Q1d := Lib.hid (k5.cell (show W4.drew.cell? ⟨W2.heap.size, 1, none⟩ = _ from Q1.out) (fun hf => (C4.out.foot _ hf).elim HX2.out (fun h => by have h1 : W3.heap.size ≤ W2.heap.size := h; have h2 := B3.out.size; have h3 := P1.out; have h4 := World.block_lt_of_cell? W3 _ h3; have h5 : W2.heap.size < W3.heap.size := h4; omega)))
    obtain ⟨x6, ch6⟩ := (C4.out.later (Below.refl _ _).drew).next ⟨x5, a5, f5, k5⟩
    have C6 := Lib.hid ch6
    clear a5 f5 k5 ch6 q1
    go_upto_region 19 with fail
    rw [show W4.drew.setCell ⟨cb, 11, none⟩ (.slice (some ⟨g, 0, none⟩) l0.length fcap) = (W4.setCell ⟨cb, 11, none⟩ (.slice (some ⟨g, 0, none⟩) l0.length fcap)).drew from rfl] at Q1d C6
    obtain ⟨W5, hW5⟩ : ∃ W5, (W4.setCell ⟨cb, 11, none⟩ (.slice (some ⟨g, 0, none⟩) l0.length fcap)).drew = W5 := ⟨_, rfl⟩
    rw [hW5] at Q1d C6 ⊢
    clear hW5
    have q1 := Q1d.out
    go_wp2_with fail
    refine (put_l fr ht W5 B cb E _ _ k C6.out.here (C6.out.size (Nat.le_trans (C2.out.size (Nat.le_trans hB (Nat.le_of_lt BX.out.size))) B3.out.size)) hst4).mono ?_
    rintro e W7 ⟨rfl, u7⟩
    obtain ⟨x7, ch7⟩ := C6.out.next u7
    obtain ⟨x8, ch8⟩ := C2.out.next (ch7.upd.after B3.out)
    have C8 := Lib.hid ch8
    clear u7 ch7 ch8 q1
    go_wp2_with fail
    go_ret
    exact ⟨rfl, C8.out.upd.after BX.out.below⟩
  · obtain ⟨em, hem⟩ : ∃ em, fr.isEmpty = em := ⟨_, rfl⟩
    rw [hem] at hes hok
    obtain rfl : ok = em := by rw [← hok]; simp [bne, hfo]
    have hfo2 : (fo != 4) = false := by simp [bne, hfo]
    clear hem key hok
    go_enter Tryz.func104, Tryz.ntmps104
    go_wp2_with fail
    obtain ⟨W1, hW1⟩ : ∃ W1, w.alloc (.cells #[.int .i64 11, .int .i64 a, .int .i64 b, lv] 29) = W1 := ⟨_, rfl⟩
    rw [hW1]
    have BX := Lib.hid (boxed_ins hW1)
    clear hW1
    have C1 := Lib.hid (Chain.start (H.out.later BX.out.below) (Below.refl _ _))
    refine (shut_f _ B cb E _ _ k C1.out.here (C1.out.size (Nat.le_trans hB (Nat.le_of_lt BX.out.size))) l0 _ HF.out ht).mono ?_
    rintro e W2 ⟨rfl, u2⟩
    obtain ⟨x2, ch2⟩ := C1.out.next u2
    rw [HC2.out] at ch2
    have C2 := Lib.hid ch2
    clear u2 ch2
    have HX2 := Lib.hid (foot_new C2.out.here)
    obtain ⟨W3, hW3⟩ : ∃ W3, W2.alloc (.cells #[.int .i64 fo, .string (strB fr), .int .i64 (fh : Int), .bool fd] 156) = W3 := ⟨_, rfl⟩
    have b3 : Below W2.heap.size W2 W3 := by rw [← hW3]; exact (Below.refl _ _).alloc (Nat.le_refl _) _
    have C3 := Lib.hid (Chain.start (C2.out.here.later b3) (Below.refl _ _))
    have B3 := Lib.hid b3
    have p0 : W3.cell? ⟨W2.heap.size, 0, none⟩ = some (.int .i64 fo) := by rw [← hW3]; exact World.cell?_alloc_at _ _ _ _ rfl
    have p1 : W3.cell? ⟨W2.heap.size, 1, none⟩ = some (.string (strB fr)) := by rw [← hW3]; exact World.cell?_alloc_at _ _ _ _ rfl
    have P1 := Lib.hid p1
    clear b3
    go_wp2_with fail
    clear hW3
    refine (want_any ok W3 B cb E _ _ k C3.out.here).mono ?_
    rintro e W4 ⟨rfl, u4⟩
    obtain ⟨x4, ch4⟩ := C3.out.next u4
    have q1 := ch4.cell P1.out HX2.out
    have hs4 : (wantC c2 ok).frames = l0 ++ [⟨fo, fr, fh, fd⟩] := F2.out.frames
    have hst4 : (wantC c2 ok).stack.length < 3000000000000 := F2.out.stack
    obtain ⟨g, fcap, hv, hfc, hgl, _, _, _, _, _⟩ := ch4.here.lastFrm hs4
    have hll : l0.length < 3000000000000 := by have := F2.out.many; rw [F2.out.frames] at this; simp at this; omega
    have hll1 : l0.length ≤ fcap := by omega
    obtain ⟨_, c11, _⟩ := ch4.here.cells
    rw [hv] at c11
    have fz := ch4.here.frozen 11
    have FZ := Lib.hid fz
    have C11 := Lib.hid c11
    have Q1 := Lib.hid q1
    have HU := Lib.hid ((ch4.here.later (Below.refl _ _).drew).less hv hs4)
    have C4 := Lib.hid ch4
    have hsl := cut_frames (some ⟨g, 0, none⟩) (l0.length + 1) fcap l0.length hll1
    have hwl : IntKind.i64.wrap (l0.length : Int) = (l0.length : Int) := IntWalk.i64_in _ (by omega)
    clear u4 ch4 hv hfc hgl fz p0 p1
    go_wp2_with fail
    go_still_tail 14, (by kernel_rfl)
    change wpList _ _ _ _ _ W4.drew
    have c11d : W4.drew.cell? ⟨cb, 11, none⟩ = some (.slice (some ⟨g, 0, none⟩) (l0.length + 1) fcap) := C11.out
    have fzd : W4.frozen? ⟨cb, 11, none⟩ = false := FZ.out
    clear c11
    obtain ⟨x5, a5, f5, k5⟩ := HU.out
    have Q1d := Lib.hid (k5.cell (show W4.drew.cell? ⟨W2.heap.size, 1, none⟩ = _ from Q1.out) (fun hf => (C4.out.foot _ hf).elim HX2.out (fun h => by have h1 : W3.heap.size ≤ W2.heap.size := h; have h2 := B3.out.size; have h3 := P1.out; have h4 := World.block_lt_of_cell? W3 _ h3; have h5 : W2.heap.size < W3.heap.size := h4; omega)))
    obtain ⟨x6, ch6⟩ := (C4.out.later (Below.refl _ _).drew).next ⟨x5, a5, f5, k5⟩
    have C6 := Lib.hid ch6
    clear a5 f5 k5 ch6 q1
    go_upto_region 19 with fail
    rw [show W4.drew.setCell ⟨cb, 11, none⟩ (.slice (some ⟨g, 0, none⟩) l0.length fcap) = (W4.setCell ⟨cb, 11, none⟩ (.slice (some ⟨g, 0, none⟩) l0.length fcap)).drew from rfl] at Q1d C6
    obtain ⟨W5, hW5⟩ : ∃ W5, (W4.setCell ⟨cb, 11, none⟩ (.slice (some ⟨g, 0, none⟩) l0.length fcap)).drew = W5 := ⟨_, rfl⟩
    rw [hW5] at Q1d C6 ⊢
    clear hW5
    have q1 := Q1d.out
    go_wp2_with fail
    refine (put_l fr ht W5 B cb E _ _ k C6.out.here (C6.out.size (Nat.le_trans (C2.out.size (Nat.le_trans hB (Nat.le_of_lt BX.out.size))) B3.out.size)) hst4).mono ?_
    rintro e W7 ⟨rfl, u7⟩
    obtain ⟨x7, ch7⟩ := C6.out.next u7
    obtain ⟨x8, ch8⟩ := C2.out.next (ch7.upd.after B3.out)
    have C8 := Lib.hid ch8
    clear u7 ch7 ch8 q1
    go_wp2_with fail
    go_ret
    exact ⟨rfl, C8.out.upd.after BX.out.below⟩
end Go.Proofs.YtmbgemcddjailaaGreatDoor.Vld

/- VldK: The arm br_table of the checker's control. No condition beyond what each theorem names. -/
namespace Go.Proofs.YtmbgemcddjailaaGreatDoor.Vld
open Go.RowKit Go.Maps Go.Proofs.YtmbgemcddjailaaGreatDoor.Op Go.Proofs.YtmbgemcddjailaaGreatDoor.Mod
set_option linter.unusedVariables false
theorem allSame_append : ∀ (a b : List Int) (t : List UInt8) (c : Ck), allSame (a ++ b) t c = allSame b t (allSame a t c)
  | [], b, t, c => rfl
  | l :: a, b, t, c => allSame_append a b t _
theorem allSame_snoc {zs : List Int} {j : Nat} {z : Int} (h : zs[j]? = some z) (t : List UInt8) (c : Ck) : allSame (zs.take (j + 1)) t c = wantC (labelC z.toNat (allSame (zs.take j) t c)).1 ((labelC z.toNat (allSame (zs.take j) t c)).2 == t) := by
  rw [List.take_add_one, h, allSame_append]
  rfl
theorem Few.want {c : Ck} {l0 : List Fr} {f : Fr} (h : Few c l0 f) (b : Bool) : Few (wantC c b) l0 f := ⟨h.frames, h.height, h.stack, h.many⟩
theorem Few.same {l0 : List Fr} {f : Fr} {t : List UInt8} : ∀ (ls : List Int) {c : Ck}, Few c l0 f → Few (allSame ls t c) l0 f
  | [], c, h => h
  | l :: ls, c, h => Few.same ls ((h.label _).want _)
theorem same_frames {t : List UInt8} : ∀ (ls : List Int) (c : Ck), (allSame ls t c).frames = c.frames
  | [], c => rfl
  | l :: ls, c => (same_frames ls _).trans (labelC_frames _ c).1
theorem str_eq (a b : List UInt8) : ((strB a).toList == (strB b).toList) = (a == b) := by
  rw [ByteArray.toList_eq, ByteArray.toList_eq, strB_data, strB_data]
/-- what lies below stays through a chain -/
theorem Chain.below {w W : World} {B cb : Nat} {E : Ce} {x x1 : Cx} {c c1 : Ck} {k k1 : Nat} (h0 : CkAt w B cb E x c k) (hB : B ≤ w.heap.size) (h : Chain w B cb E x k1 W x1 c1) : Below B w W :=
  h.keeps.below (fun j hj => (h0.foot_lt j hj).1) hB
def RelB (W1 : World) (B cb : Nat) (E : Ce) (x : Cx) (k : Nat) (zs : List Int) (t : List UInt8) (c2 : Ck) (i : Value) (wr : World) : Prop :=
  ∃ (j : Nat) (xj : Cx), j ≤ zs.length ∧ i = .int .i64 (j : Int) ∧ Chain W1 B cb E x k wr xj (allSame (zs.take j) t c2)
def brC (n : Nat) (zs : List Int) (c : Ck) : Ck := let r := labelC n (takeC [127] c); killC (takeC r.2 (allSame zs r.2 r.1))
set_option maxRecDepth 100000 in
set_option maxHeartbeats 4000000 in
theorem control_14 (zs : List Int) (hz : ∀ z ∈ zs, 0 ≤ z ∧ z < 4294967296) (n : Nat) (hn : n < 4294967296) (b : Int) (lv : Value) (w : World) (B cb : Nat) (E : Ce) (x : Cx) (c : Ck) (k : Nat) (h : CkAt w B cb E x c k) (hB : B ≤ w.heap.size) (l0 : List Fr) (f : Fr) (hf : Few c l0 f) (ht : Thin c) (hl : ∀ W, Below B w W → IntsAt W lv zs) (hlen : zs.length ≤ 1000000) :
    Calls Tryz.prog 104 #[.pointer (some ⟨cb, 0, none⟩), .agg #[.int .i64 14, .int .i64 (n : Int), .int .i64 b, lv]] w fun e w' => e = .returned (.bool true) ∧ Upd w B cb E x (brC n zs c) k w' := by
  obtain ⟨la, lc, hlv⟩ := intsAt_form (hl w (Below.refl _ _))
  subst hlv
  unfold brC
  obtain ⟨c1, hc1⟩ : ∃ c1, takeC [127] c = c1 := ⟨_, rfl⟩
  have F1 := hf.take [127]
  have T1 := ht.of (take_frames hf [127])
  rw [hc1] at F1 T1 ⊢
  have F2 := F1.label n
  have L2 := T1.label n
  have T2 := T1.of (labelC_frames n c1).1
  obtain ⟨⟨c2, t⟩, hct⟩ : ∃ r, labelC n c1 = r := ⟨_, rfl⟩
  rw [hct] at F2 L2 T2 ⊢
  dsimp only at F2 L2 T2 ⊢
  obtain ⟨N, hN⟩ : ∃ N, zs.length = N := ⟨_, rfl⟩
  have HF := Lib.hid hf
  have HF1 := Lib.hid F1
  have HF2 := Lib.hid F2
  have HL2 := Lib.hid L2
  have HT2 := Lib.hid T2
  have HC1 := Lib.hid hc1
  have HCT := Lib.hid hct
  have H := Lib.hid h
  have HX := Lib.hid (foot_new h)
  have HL := Lib.hid hl
  have HZ := Lib.hid hz
  have HNN := Lib.hid hN
  have hw64 : ∀ j : Nat, j < N → IntKind.i64.wrap ((j : Int) + 1) = (j : Int) + 1 := fun j hj => IntWalk.i64_in _ (by omega)
  have HW := Lib.hid hw64
  rw [hN]
  clear h hf ht hl hz F1 T1 F2 L2 T2 hc1 hct hw64
  go_enter Tryz.func104, Tryz.ntmps104
  go_wp2_with fail
  obtain ⟨W1, hW1⟩ : ∃ W1, w.alloc (.cells #[.int .i64 14, .int .i64 (n : Int), .int .i64 b, .slice la N lc] 29) = W1 := ⟨_, rfl⟩
  rw [hW1]
  have BX := Lib.hid (boxed_ins hW1)
  clear hW1
  have C1 := Lib.hid (Chain.start (H.out.later BX.out.below) (Below.refl _ _))
  refine (take_l [127] (by decide) _ B cb E _ _ k C1.out.here l0 f HF.out).mono ?_
  rintro e W2 ⟨rfl, u2⟩
  obtain ⟨x2, ch2⟩ := C1.out.next u2
  rw [HC1.out] at ch2
  have C2 := Lib.hid ch2
  obtain ⟨q0, q1, q2, q3⟩ := BX.out.chain HX.out ch2
  clear u2 ch2
  go_wp2_with fail
  refine (label_any n hn _ B cb E _ _ k C2.out.here HF1.out.many).mono ?_
  rintro e W3 ⟨rfl, u3⟩
  rw [HCT.out] at u3 ⊢
  dsimp only at u3 ⊢
  obtain ⟨x3, ch3⟩ := C2.out.next u3
  have C3 := Lib.hid ch3
  obtain ⟨q0, q1, q2, q3⟩ := BX.out.chain HX.out ch3
  clear u3 ch3
  go_wp2_with fail
  go_loopw [111] (fun i wr => RelB W1 B cb E x k zs t c2 i wr) (fun i _ => N - (intOf i).toNat)
  case atStart => exact ⟨0, x3, Nat.zero_le _, rfl, C3.out⟩
  case round =>
    obtain ⟨j, xj, hj, rfl, chj⟩ := hrel
    obtain ⟨Wj, rfl⟩ : ∃ Wj, Wj = wr := ⟨_, rfl⟩
    rw [HNN.out] at hj
    by_cases hlt : j < N
    · obtain ⟨z, hzj⟩ : ∃ z, zs[j]? = some z := ⟨_, List.getElem?_eq_getElem (by have := HNN.out; omega)⟩
      obtain ⟨z0, z1⟩ := HZ.out z (List.mem_of_getElem? hzj)
      obtain ⟨m, hm⟩ : ∃ m : Nat, z = (m : Int) := ⟨z.toNat, by omega⟩
      subst hm
      have hbel := Chain.below C1.out.here (Nat.le_trans hB (Nat.le_of_lt BX.out.size)) chj
      have hints := HL.out Wj ((BX.out.below.mono hB).trans hbel)
      rcases hints with ⟨h1, h2⟩ | ⟨bl, off, c', h1, hbl, hcl⟩ | ⟨_, _, _, h2⟩
      rotate_right
      · rw [h2] at hzj; cases hzj
      · rw [h2] at hzj; cases hzj
      · have hce := hcl j _ hzj
        obtain ⟨rfl, rfl⟩ : la = some ⟨bl, off, none⟩ ∧ lc = c' := by
          simp only [Value.slice.injEq] at h1
          exact ⟨h1.1, h1.2.2⟩
        have hwj := HW.out j hlt
        have hd : decide (j < N) = true := decide_eq_true hlt
        have hi0 : (0 : Int) ≤ (j : Int) := by omega
        have hi1 : (j : Int) < (N : Int) := by omega
        have CJ := Lib.hid chj
        have FJ := Lib.hid (HF2.out.same (t := t) (zs.take j))
        have HS := Lib.hid (allSame_snoc hzj t c2)
        rw [Int.toNat_natCast] at HS
        obtain ⟨cj, hcj⟩ : ∃ cj, allSame (zs.take j) t c2 = cj := ⟨_, rfl⟩
        rw [hcj] at CJ FJ HS
        obtain ⟨⟨cl, tl⟩, hcl2⟩ : ∃ r, labelC m cj = r := ⟨_, rfl⟩
        rw [hcl2] at HS
        have HCL := Lib.hid hcl2
        have hse := str_eq tl t
        clear chj hzj hbel h1 hcl hcj hcl2
        go_wp2_with fail
        refine (label_any m (by omega) _ B cb E _ _ k CJ.out.here FJ.out.many).mono ?_
        rintro e W5 ⟨rfl, u5⟩
        rw [HCL.out] at u5 ⊢
        dsimp only at u5 ⊢
        obtain ⟨x5, ch5⟩ := CJ.out.next u5
        have C5 := Lib.hid ch5
        clear u5 ch5
        go_wp2_with fail
        refine (want_any (tl == t) _ B cb E _ _ k C5.out.here).mono ?_
        rintro e W6 ⟨rfl, u6⟩
        obtain ⟨x6, ch6⟩ := C5.out.next u6
        have C6 := Lib.hid ch6
        clear u6 ch6 hce
        go_wp2_with fail
        go_roundw
        case rel => exact ⟨j + 1, x6, by have := HNN.out; omega, by go_num, by rw [HS.out]; exact C6.out⟩
        case measure => simp [intOf]; omega
    · obtain rfl : j = N := by omega
      have hd : decide (j < j) = false := by simp
      have hall : zs.take j = zs := List.take_of_length_le (by have := HNN.out; omega)
      rw [hall] at chj
      have C5 := Lib.hid chj
      have F5 := Lib.hid (HF2.out.same (t := t) zs)
      have F6 := Lib.hid (F5.out.take t)
      clear chj hall
      go_wp2_with fail
      refine (take_l t (by have := HL2.out; omega) _ B cb E _ _ k C5.out.here l0 f F5.out).mono ?_
      rintro e W6 ⟨rfl, u6⟩
      obtain ⟨x6, ch6⟩ := C5.out.next u6
      have C6 := Lib.hid ch6
      clear u6 ch6
      go_wp2_with fail
      refine (kill_f _ B cb E _ _ k C6.out.here l0 f F6.out).mono ?_
      rintro e W7 ⟨rfl, u7⟩
      obtain ⟨x7, ch7⟩ := C6.out.next u7
      have C7 := Lib.hid ch7
      clear u7 ch7
      go_wp2_with fail
      go_ret
      exact ⟨rfl, C7.out.upd.after BX.out.below⟩
end Go.Proofs.YtmbgemcddjailaaGreatDoor.Vld

/- VldL: The checker's control, whatever the instruction. No condition beyond what each theorem names. -/
namespace Go.Proofs.YtmbgemcddjailaaGreatDoor.Vld
open Go.RowKit Go.Maps Go.Proofs.YtmbgemcddjailaaGreatDoor.Op Go.Proofs.YtmbgemcddjailaaGreatDoor.Mod
set_option linter.unusedVariables false
theorem right_facts {op A B : Int} {zs : List Int} (h : rightB op A B zs = true) : ∃ i, opInfo op = some i ∧ allWords zs = true ∧ tailB i.shape op A B = true ∧ zs.length ≤ 4096 := by
  unfold rightB at h
  cases hi : opInfo op with
  | none => rw [hi] at h; cases h
  | some i =>
    rw [hi] at h
    refine ⟨i, rfl, ?_⟩
    change rightI i op A B zs = true at h
    unfold rightI at h
    by_cases h1 : B ≠ 0 ∧ i.shape ≠ 5
    · rw [if_pos h1] at h; cases h
    rw [if_neg h1] at h
    by_cases h2 : zs ≠ [] ∧ i.shape ≠ 3
    · rw [if_pos h2] at h; cases h
    rw [if_neg h2] at h
    by_cases h3 : 4096 < zs.length
    · rw [if_pos h3] at h; cases h
    rw [if_neg h3] at h
    by_cases h4 : allWords zs = true
    · rw [if_pos h4] at h; exact ⟨h4, h, by omega⟩
    · rw [if_neg h4] at h; cases h
theorem shp_all : (([(2, 1), (3, 1), (4, 1), (12, 2), (13, 2), (14, 3), (16, 4), (32, 4), (33, 4), (34, 4), (35, 4), (36, 4)] : List (Int × Int)).all fun e => ((opInfo e.1).map Info.shape) == some e.2) = true := by kernel_rfl
theorem shp {o s : Int} (h : (o, s) ∈ ([(2, 1), (3, 1), (4, 1), (12, 2), (13, 2), (14, 3), (16, 4), (32, 4), (33, 4), (34, 4), (35, 4), (36, 4)] : List (Int × Int))) : (opInfo o).map Info.shape = some s := eq_of_beq (List.all_eq_true.1 shp_all _ h)
theorem block_kind {op A B : Int} {zs : List Int} (h : rightB op A B zs = true) (ho : op = 2 ∨ op = 3 ∨ op = 4) : A = 64 ∨ A = 127 ∨ A = 126 := by
  obtain ⟨i, hi, _, ht, _⟩ := right_facts h
  have hs : (opInfo op).map Info.shape = some 1 := by rcases ho with rfl | rfl | rfl <;> exact shp (by simp)
  rw [hi] at hs
  obtain hs2 : i.shape = 1 := by simpa using hs
  rw [hs2, tail_1] at ht
  simp at ht
  omega
theorem word_of {n : Int} (h : wordB n = true) : 0 ≤ n ∧ n < 4294967296 := by
  unfold wordB at h
  simp at h
  omega
theorem index_word {op A B : Int} {zs : List Int} (h : rightB op A B zs = true) (ho : op = 12 ∨ op = 13 ∨ op = 14 ∨ op = 16 ∨ op = 32 ∨ op = 33 ∨ op = 34 ∨ op = 35 ∨ op = 36) : 0 ≤ A ∧ A < 4294967296 := by
  obtain ⟨i, hi, _, ht, _⟩ := right_facts h
  obtain ⟨s, hs, h2, h5⟩ : ∃ s, (opInfo op).map Info.shape = some s ∧ 2 ≤ s ∧ s ≤ 5 := by
    rcases ho with rfl | rfl | rfl | rfl | rfl | rfl | rfl | rfl | rfl
    · exact ⟨2, shp (by simp), by decide, by decide⟩
    · exact ⟨2, shp (by simp), by decide, by decide⟩
    · exact ⟨3, shp (by simp), by decide, by decide⟩
    all_goals exact ⟨4, shp (by simp), by decide, by decide⟩
  rw [hi] at hs
  obtain hs2 : i.shape = s := by simpa using hs
  rw [hs2, tail_w s op A B h2 h5] at ht
  simp at ht
  exact word_of ht.1
/-- what a step asks: how the checker stands, the instruction, the module -/
structure Ask (w : World) (B cb : Nat) (E : Ce) (x : Cx) (c : Ck) (k : Nat) (v : Vn) (l0 : List Fr) (f : Fr) : Prop where
  here : CkAt w B cb E x c k
  low : B ≤ w.heap.size
  few : Few c l0 f
  thin : Thin c
  result : v.result = E.result.data.toList
  rsize : E.result.size ≤ 1
  locals : v.locals = E.locals.data.toList
  lsize : E.locals.size < 1000000
theorem control_yes {w : World} {B cb : Nat} {E : Ce} {x : Cx} {c : Ck} {k : Nat} {v : Vn} {l0 : List Fr} {f : Fr} (A : Ask w B cb E x c k v l0 f) (i : InsL) (lv : Value) (hr : rightB i.op i.a i.b i.labels = true) (hl : ∀ W, Below B w W → IntsAt W lv i.labels) {c' : Ck} (hc : controlC v i c = some c') :
    Calls Tryz.prog 104 #[.pointer (some ⟨cb, 0, none⟩), .agg #[.int .i64 i.op, .int .i64 i.a, .int .i64 i.b, lv]] w fun e w' => e = .returned (.bool true) ∧ Upd w B cb E x c' k w' := by
  obtain ⟨op, a, b, zs⟩ := i
  have hlast : c.frames.getLast? = some f := by rw [A.few.frames]; simp
  have hfr : f.result.length ≤ 1 := A.thin f (by rw [A.few.frames]; simp)
  dsimp only at hr hl ⊢
  unfold controlC at hc
  dsimp only at hc
  by_cases h0 : op = 0
  · subst h0
    rw [if_pos rfl] at hc
    cases hc
    exact control_0 a b lv w B cb E x c k A.here A.low l0 f A.few
  rw [if_neg h0] at hc
  by_cases h2 : op = 2 ∨ op = 3
  · rw [if_pos h2] at hc
    cases hc
    rcases h2 with rfl | rfl
    · exact control_2 a b lv w B cb E x c k A.here A.low l0 f A.few (block_kind hr (by omega))
    · exact control_3 a b lv w B cb E x c k A.here A.low l0 f A.few (block_kind hr (by omega))
  rw [if_neg h2] at hc
  by_cases h4 : op = 4
  · subst h4
    rw [if_pos rfl] at hc
    cases hc
    exact control_4 a b lv w B cb E x c k A.here A.low l0 f A.few (block_kind hr (by omega))
  rw [if_neg h4] at hc
  by_cases h5 : op = 5
  · subst h5
    rw [if_pos rfl, hlast] at hc
    have e : setTop (shutC f c).frames { f with op := 5, dead := false } = l0 ++ [{ f with op := 5, dead := false }] := by
      unfold setTop
      rw [A.few.shut.frames]
      simp
    simp only [e] at hc
    cases hc
    exact control_5 a b lv w B cb E x c k A.here A.low l0 f A.few (by omega)
  rw [if_neg h5] at hc
  by_cases h11 : op = 11
  · subst h11
    rw [if_pos rfl, hlast] at hc
    have e : (wantC (shutC f c) (f.op != 4 || f.result.isEmpty)).frames.dropLast = l0 := by
      show (shutC f c).frames.dropLast = l0
      rw [A.few.shut.frames]
      simp
    simp only [e] at hc
    cases hc
    exact control_11 a b lv w B cb E x c k A.here A.low l0 f A.few (by omega) _ rfl
  rw [if_neg h11] at hc
  have wd : op = 12 ∨ op = 13 ∨ op = 14 → ∃ n : Nat, n < 4294967296 ∧ a = (n : Int) := fun ho => by
    have := index_word hr (by omega)
    exact ⟨a.toNat, by omega, by omega⟩
  by_cases h12 : op = 12
  · obtain ⟨n, hn, rfl⟩ := wd (.inl h12)
    subst h12
    rw [if_pos rfl, Int.toNat_natCast] at hc
    cases hc
    exact control_12 (n : Int) b lv w B cb E x c k A.here A.low l0 f A.few n hn rfl A.thin
  rw [if_neg h12] at hc
  by_cases h13 : op = 13
  · obtain ⟨n, hn, rfl⟩ := wd (.inr (.inl h13))
    subst h13
    rw [if_pos rfl, Int.toNat_natCast] at hc
    cases hc
    exact control_13 (n : Int) b lv w B cb E x c k A.here A.low l0 f A.few n hn rfl A.thin
  rw [if_neg h13] at hc
  by_cases h14 : op = 14
  · obtain ⟨n, hn, rfl⟩ := wd (.inr (.inr h14))
    subst h14
    rw [if_pos rfl, Int.toNat_natCast] at hc
    cases hc
    obtain ⟨i, hi, hw, _, hlen⟩ := right_facts hr
    exact control_14 zs (fun z hz => word_of (List.all_eq_true.1 hw z hz)) n hn b lv w B cb E x c k A.here A.low l0 f A.few A.thin hl (by omega)
  rw [if_neg h14] at hc
  by_cases h15 : op = 15
  · subst h15
    rw [if_pos rfl] at hc
    cases hc
    rw [A.result]
    exact control_15 a b lv w B cb E x c k A.here A.low l0 f A.few (by have := A.rsize; omega)
  rw [if_neg h15] at hc
  cases hc
theorem control_none_ops {v : Vn} {i : InsL} {c : Ck} (hc : controlC v i c = none) : i.op ≠ 0 ∧ i.op ≠ 2 ∧ i.op ≠ 3 ∧ i.op ≠ 4 ∧ i.op ≠ 5 ∧ i.op ≠ 11 ∧ i.op ≠ 12 ∧ i.op ≠ 13 ∧ i.op ≠ 14 ∧ i.op ≠ 15 := by
  unfold controlC at hc
  by_cases h0 : i.op = 0
  · rw [if_pos h0] at hc; cases hc
  rw [if_neg h0] at hc
  by_cases h2 : i.op = 2 ∨ i.op = 3
  · rw [if_pos h2] at hc; cases hc
  rw [if_neg h2] at hc
  by_cases h4 : i.op = 4
  · rw [if_pos h4] at hc; cases hc
  rw [if_neg h4] at hc
  by_cases h5 : i.op = 5
  · rw [if_pos h5] at hc; cases hc
  rw [if_neg h5] at hc
  by_cases h11 : i.op = 11
  · rw [if_pos h11] at hc; cases hc
  rw [if_neg h11] at hc
  by_cases h12 : i.op = 12
  · rw [if_pos h12] at hc; cases hc
  rw [if_neg h12] at hc
  by_cases h13 : i.op = 13
  · rw [if_pos h13] at hc; cases hc
  rw [if_neg h13] at hc
  by_cases h14 : i.op = 14
  · rw [if_pos h14] at hc; cases hc
  rw [if_neg h14] at hc
  by_cases h15 : i.op = 15
  · rw [if_pos h15] at hc; cases hc
  omega
theorem control_nope (i : InsL) (lv : Value) (w : World) (cb : Nat) {v : Vn} {c : Ck} (hc : controlC v i c = none) :
    Calls Tryz.prog 104 #[.pointer (some ⟨cb, 0, none⟩), .agg #[.int .i64 i.op, .int .i64 i.a, .int .i64 i.b, lv]] w fun e w' => e = .returned (.bool false) ∧ Below w.heap.size w w' := by
  obtain ⟨h0, h2, h3, h4, h5, h11, h12, h13, h14, h15⟩ := control_none_ops hc
  have nb : ∀ {n : Int}, i.op ≠ n → (i.op == n) = false := fun h => beq_eq_false_iff_ne.2 h
  exact control_no i.op i.a i.b lv w cb (nb h0) (nb h2) (nb h3) (nb h4) (nb h5) (nb h11) (nb h12) (nb h13) (nb h14) (nb h15)
end Go.Proofs.YtmbgemcddjailaaGreatDoor.Vld
