/-
  What package asm's Op does. No condition beyond what each theorem names.
-/
import Derived.Test.YtlbgbpgjccbbjaaDoorAsmB
namespace Go.Proofs.YtlbgbpgjccbbjaaDoor.Asm
open Go.RowKit Go.Maps Go.Proofs.YtlbgbpgjccbbjaaDoor.Op
set_option linter.unusedVariables false
/-- what package op wants of memory, below B -/
def Env (B : Nat) (w : World) : Prop := ∃ w0, OpEnv w0 ∧ w0.heap.size = B ∧ Below B w0 w
theorem Env.start {w : World} (h : OpEnv w) : Env w.heap.size w := ⟨w, h, rfl, Below.refl _ _⟩
theorem Env.later {B : Nat} {w w' : World} (h : Env B w) (hb : Below B w w') : Env B w' := by
  obtain ⟨w0, h1, h2, h3⟩ := h
  exact ⟨w0, h1, h2, h3.trans hb⟩
theorem Env.op {B : Nat} {w : World} (h : Env B w) : OpEnv w := by
  obtain ⟨w0, h1, h2, h3⟩ := h
  exact opEnv_later h1 (h2 ▸ h3)
theorem Env.size {B : Nat} {w : World} (h : Env B w) : B ≤ w.heap.size := by
  obtain ⟨w0, h1, h2, h3⟩ := h
  exact h2 ▸ h3.size
theorem Env.below {B : Nat} {w w' : World} (h : Env B w) (hb : Below w.heap.size w w') : Env B w' := h.later (hb.mono h.size)
theorem Env.upd {B bb : Nat} {w w' : World} {x : Bx} {n n' : Nat} {s s' : St} (h : Env B w) (hA : BAt w B bb x n s) (hu : Upd w B bb x n' s' w') : Env B w' := h.later (Upd.from_base hA h.size hu)
def specialB (c : Int) : Bool := c == 2 || c == 3 || c == 4 || c == 5 || c == 11 || c == 12 || c == 13 || c == 14
def opOk (nm : List UInt8) (a b : Int) : Option Int := match codeOf nm with
  | none => none
  | some c => if specialB c then none else if rightB c a b [] then some c else none
def opAns : Bool → Int | true => 0 | false => 1
def opSt (s : St) (c a b : Int) : Bool → St | true => { s with code := s.code ++ [⟨c, a, b⟩] } | false => s
theorem codes_wf : (tableL.all fun e => decide (0 ≤ e.1) && decide (e.1 < 200)) = true := by kernel_rfl
theorem code_range {nm : List UInt8} {c : Int} (h : codeOf nm = some c) : 0 ≤ c ∧ c < 200 := by
  unfold codeOf at h
  obtain ⟨e, he, rfl⟩ := Option.map_eq_some_iff.1 h
  have h1 := List.all_eq_true.1 codes_wf _ (List.mem_of_find?_eq_some he)
  simpa using h1
theorem code_wf {nm : List UInt8} {c : Int} (h : codeOf nm = some c) : (Lit.int .i64 c).wf = true := by
  obtain ⟨h0, h1⟩ := code_range h
  simp [Lit.wf, IntKind.min, IntKind.max, IntKind.signed, IntKind.bits]
  omega
set_option maxRecDepth 100000 in
set_option maxHeartbeats 1000000 in
theorem op_plain (nm : ByteArray) (a b : Int) (w : World) (B bb : Nat) (x : Bx) (n : Nat) (s : St) (h : BAt w B bb x n s) (hE : Env B w) (hn : n < 1000000) (hl : s.code.length < 1000000) (hs : nm.size ≤ maxLen) (c : Int) (hc : codeOf nm.data.toList = some c) (hsp : specialB c = false) (r : Bool) (hr : rightB c a b [] = r) :
    Calls Tryd.prog 34 #[.pointer (some ⟨bb, 0, none⟩), .string nm, .int .i64 a, .int .i64 b] w fun e w' => e = .returned (.int .i64 (opAns r)) ∧ Upd w B bb x (n + 1) (opSt s c a b r) w' := by
  have HA := Lib.hid h
  have HE := Lib.hid hE
  have HC := Lib.hid hc
  have HR := Lib.hid hr
  simp only [specialB, Bool.or_eq_false_iff] at hsp
  obtain ⟨⟨⟨⟨⟨⟨⟨q2, q3⟩, q4⟩, q5⟩, q11⟩, q12⟩, q13⟩, q14⟩ := hsp
  clear h hE hc hr
  go_enter Tryd.func34, Tryd.ntmps34
  go_wp2_with fail
  refine (find_any nm w B bb x n s HA.out HE.out.size HE.out.op hn hs c true (by rw [HC.out]; rfl) (by rw [HC.out]; rfl)).mono ?_
  rintro e w1 ⟨rfl, hu⟩
  have HE1 := Lib.hid (HE.out.upd HA.out hu)
  obtain ⟨x1, hA1, hf, hk⟩ := hu
  have HA1 := Lib.hid hA1
  have HF := Lib.hid hf
  have HK := Lib.hid hk
  have BW := (Below.refl w1.heap.size w1).alloc (Nat.le_refl _) (.cells #[.int .i64 c, .int .i64 a, .int .i64 b, .slice none 0 0] 36)
  clear hA1 hf hk
  go_wp2_with fail
  refine (right_v c a b none 0 _ (HE1.out.below BW).op (code_wf HC.out) r HR.out).mono ?_
  rintro e w2 ⟨rfl, c2⟩
  have HB2 := Lib.hid (BW.trans (c2.mono BW.size))
  have r0 : w2.cell? ⟨w1.heap.size, 0, none⟩ = some (.int .i64 c) := cell_later c2 (by simp)
  have r1 : w2.cell? ⟨w1.heap.size, 1, none⟩ = some (.int .i64 a) := cell_later c2 (by simp)
  have r2 : w2.cell? ⟨w1.heap.size, 2, none⟩ = some (.int .i64 b) := cell_later c2 (by simp)
  have r3 : w2.cell? ⟨w1.heap.size, 3, none⟩ = some (.slice none 0 0) := cell_later c2 (by simp)
  clear c2 BW
  cases r
  · go_wp2_with fail
    go_ret
    exact ⟨rfl, Upd.trans HF.out HK.out (Upd.below HA1.out HB2.out)⟩
  · go_wp2_with fail
    refine (put_any c a b w2 B bb x1 (n + 1) s (HA1.out.later HB2.out) (Nat.le_trans HE1.out.size HB2.out.size) hl).mono ?_
    rintro e w3 ⟨rfl, hu3⟩
    have HU3 := Lib.hid hu3
    clear hu3
    go_wp2_with fail
    go_ret
    exact ⟨rfl, Upd.trans HF.out HK.out (HU3.out.after HB2.out)⟩
set_option maxRecDepth 100000 in
set_option maxHeartbeats 1000000 in
theorem op_none (nm : ByteArray) (a b : Int) (w : World) (B bb : Nat) (x : Bx) (n : Nat) (s : St) (h : BAt w B bb x n s) (hE : Env B w) (hn : n < 1000000) (hs : nm.size ≤ maxLen) (hc : codeOf nm.data.toList = none) :
    Calls Tryd.prog 34 #[.pointer (some ⟨bb, 0, none⟩), .string nm, .int .i64 a, .int .i64 b] w fun e w' => e = .returned (.int .i64 1) ∧ Upd w B bb x (n + 1) s w' := by
  have HA := Lib.hid h
  have HE := Lib.hid hE
  have HC := Lib.hid hc
  clear h hE hc
  go_enter Tryd.func34, Tryd.ntmps34
  go_wp2_with fail
  refine (find_any nm w B bb x n s HA.out HE.out.size HE.out.op hn hs 0 false (by rw [HC.out]; rfl) (by rw [HC.out]; rfl)).mono ?_
  rintro e w1 ⟨rfl, hu⟩
  obtain ⟨x1, hA1, hf, hk⟩ := hu
  have HA1 := Lib.hid hA1
  have HF := Lib.hid hf
  have HK := Lib.hid hk
  clear hA1 hf hk
  go_wp2_with fail
  go_ret
  exact ⟨rfl, Upd.trans HF.out HK.out (Upd.below HA1.out ((Below.refl w1.heap.size w1).alloc (Nat.le_refl _) _))⟩
set_option maxRecDepth 100000 in
set_option maxHeartbeats 1000000 in
theorem op_special (nm : ByteArray) (a b : Int) (w : World) (B bb : Nat) (x : Bx) (n : Nat) (s : St) (h : BAt w B bb x n s) (hE : Env B w) (hn : n < 1000000) (hs : nm.size ≤ maxLen) (c : Int) (hc : codeOf nm.data.toList = some c) (hsp : specialB c = true) :
    Calls Tryd.prog 34 #[.pointer (some ⟨bb, 0, none⟩), .string nm, .int .i64 a, .int .i64 b] w fun e w' => e = .returned (.int .i64 1) ∧ Upd w B bb x (n + 1) s w' := by
  have HA := Lib.hid h
  have HE := Lib.hid hE
  have hsp2 : c = 2 ∨ c = 3 ∨ c = 4 ∨ c = 5 ∨ c = 11 ∨ c = 12 ∨ c = 13 ∨ c = 14 := by
    simp [specialB] at hsp
    omega
  clear h hE hsp
  rcases hsp2 with hq | hq | hq | hq | hq | hq | hq | hq
  all_goals
    have HC := Lib.hid hc
    clear hc
    go_enter Tryd.func34, Tryd.ntmps34
    go_wp2_with fail
    refine (find_any nm w B bb x n s HA.out HE.out.size HE.out.op hn hs c true (by rw [HC.out]; rfl) (by rw [HC.out]; rfl)).mono ?_
    rintro e w1 ⟨rfl, hu⟩
    obtain ⟨x1, hA1, hf, hk⟩ := hu
    have HA1 := Lib.hid hA1
    have HF := Lib.hid hf
    have HK := Lib.hid hk
    clear hA1 hf hk
    go_wp2_with fail
    go_ret
    exact ⟨rfl, Upd.trans HF.out HK.out (Upd.below HA1.out ((Below.refl w1.heap.size w1).alloc (Nat.le_refl _) _))⟩
/-- Op -/
def opSt' (s : St) (a b : Int) : Option Int → St | some c => { s with code := s.code ++ [⟨c, a, b⟩] } | none => s
def opAns' : Option Int → Int | some _ => 0 | none => 1
theorem op_any (nm : ByteArray) (a b : Int) (w : World) (B bb : Nat) (x : Bx) (n : Nat) (s : St) (h : BAt w B bb x n s) (hE : Env B w) (hn : n < 1000000) (hl : s.code.length < 1000000) (hs : nm.size ≤ maxLen) (o : Option Int) (ho : opOk nm.data.toList a b = o) :
    Calls Tryd.prog 34 #[.pointer (some ⟨bb, 0, none⟩), .string nm, .int .i64 a, .int .i64 b] w fun e w' => e = .returned (.int .i64 (opAns' o)) ∧ Upd w B bb x (n + 1) (opSt' s a b o) w' := by
  cases hc : codeOf nm.data.toList with
  | none =>
    obtain rfl : o = none := by rw [← ho]; unfold opOk; rw [hc]
    exact op_none nm a b w B bb x n s h hE hn hs hc
  | some c =>
    cases hsp : specialB c with
    | true =>
      obtain rfl : o = none := by rw [← ho]; unfold opOk; rw [hc]; simp [hsp]
      exact op_special nm a b w B bb x n s h hE hn hs c hc hsp
    | false =>
      have h1 := op_plain nm a b w B bb x n s h hE hn hl hs c hc hsp _ rfl
      cases hr : rightB c a b [] with
      | true =>
        obtain rfl : o = some c := by rw [← ho]; unfold opOk; rw [hc]; simp [hsp, hr]
        rw [hr] at h1
        exact h1
      | false =>
        obtain rfl : o = none := by rw [← ho]; unfold opOk; rw [hc]; simp [hsp, hr]
        rw [hr] at h1
        exact h1
end Go.Proofs.YtlbgbpgjccbbjaaDoor.Asm
