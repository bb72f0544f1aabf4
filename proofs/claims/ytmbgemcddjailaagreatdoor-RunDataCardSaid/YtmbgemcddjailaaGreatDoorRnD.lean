/-
  RunD, RunE, RunF in one.
-/
import Derived.Test.YtmbgemcddjailaaGreatDoorRnB
import Derived.Deep.LoopGhost
/- RunD: A step of a thread: control does it, or simple does. No condition beyond what each theorem names. -/
namespace Go.Proofs.YtmbgemcddjailaaGreatDoor.Run
open Go.RowKit Go.Maps Go.Proofs.YtmbgemcddjailaaGreatDoor.Op Go.Proofs.YtmbgemcddjailaaGreatDoor.Mod
set_option linter.unusedVariables false
/-- the instruction that is done, the thread's fuel -/
structure At (K : Mk) (E : Tc) (t : Th) (n : Nat) (X : InsL) : Prop where
  fuel : t.fuel = n + 1
  most : n ≤ 1000000000
  code : ∃ code, CodeAt K.w0 E.cv code ∧ code.length ≤ 1000000 ∧ code[t.at_]? = some X
/-- behind it, but for what it does -/
def nextT (t : Th) (n : Nat) : Th := { t with fuel := n, at_ := t.at_ + 1 }
def insV (X : InsL) (lv : Value) : Value := .agg #[.int .i64 X.op, .int .i64 X.a, .int .i64 X.b, lv]
theorem At.cells {K : Mk} {E : Tc} {t : Th} {n : Nat} {X : InsL} (h : At K E t n X) {w : World} (hb : Below K.w0.heap.size K.w0 w) : ∃ b off len cap lv, E.cv = .slice (some ⟨b, off, none⟩) len cap ∧ t.at_ < len ∧ t.at_ < 1000000 ∧ b < K.w0.heap.size ∧ IntsAt K.w0 lv X.labels ∧ w.cell? ⟨b, off + t.at_ * 4, none⟩ = some (.int .i64 X.op) ∧ w.cell? ⟨b, off + t.at_ * 4 + 1, none⟩ = some (.int .i64 X.a) ∧ w.cell? ⟨b, off + t.at_ * 4 + 2, none⟩ = some (.int .i64 X.b) ∧ w.cell? ⟨b, off + t.at_ * 4 + 3, none⟩ = some lv := by
  obtain ⟨code, hc, hl, hx⟩ := h.code
  obtain ⟨la, lc, hv, _, hat⟩ := hc.form
  obtain ⟨r, ⟨lv, hr, hI, _⟩, _, b, off, hla, hb2, hcell⟩ := hat _ X hx
  have hlt := (List.getElem?_eq_some_iff.1 hx).1
  rw [hr] at hcell
  refine ⟨b, off, code.length, lc, lv, by rw [hv, hla], hlt, by omega, hb2, hI, cell_later hb (hcell 0 _ rfl), cell_later hb (hcell 1 _ rfl), cell_later hb (hcell 2 _ rfl), cell_later hb (hcell 3 _ rfl)⟩
set_option maxRecDepth 100000 in
set_option maxHeartbeats 4000000 in
theorem step_control (w : World) (B tb : Nat) (K : Mk) (gs : List Nat) (E : Tc) (x : Tx) (t : Th) (h : SAt w B tb K gs E x t) (n : Nat) (X : InsL) (hX : At K E t n X) (P : World → Prop)
    (hc : ∀ W lv, SUpd w B tb K gs E x (nextT t n) W → IntsAt K.w0 lv X.labels → Calls Tryz.prog 43 #[.pointer (some ⟨tb, 0, none⟩), .pointer (some ⟨E.g, 0, none⟩), .int .i64 (t.at_ : Int), insV X lv] W fun e w' => e = .returned (.bool true) ∧ P w') :
    Calls Tryz.prog 21 #[.pointer (some ⟨tb, 0, none⟩)] w fun e w' => e = .returned (.tuple #[]) ∧ P w' := by
  obtain ⟨b, off, len, cap, lv, hcv, hl0, hl1, hbl, hI, k0, k1, k2, k3⟩ := hX.cells h.ma.old
  obtain ⟨la, lc, hlv⟩ := intsAt_form hI
  subst hlv
  obtain ⟨_, _, c2, c3, _⟩ := h.th.cells
  rw [hX.fuel] at c3
  have HI := Lib.hid hI
  have HS0 := Lib.hid h
  have hgl := h.th.gown.2
  have htl := h.th.lt
  have hgt := h.th.rest.1
  have hbB : b < B := by have := h.ma.lt; omega
  have htB := h.th.low
  have hgB := h.th.gown.1
  have hbt : b ≠ tb := by omega
  have hbg : b ≠ E.g := by omega
  have hbw : b < w.heap.size := by omega
  have HC := Lib.hid hc
  have hn := hX.most
  have hq : (((n + 1 : Nat) : Int) == 0) = false := beq_eq_false_iff_ne.2 (by omega)
  have hq1 : IntKind.i64.wrap (((n + 1 : Nat) : Int) - 1) = (n : Int) := by rw [IntWalk.i64_in _ (by omega)]; omega
  have hq2 : IntKind.i64.wrap ((t.at_ : Int) + 1) = (t.at_ : Int) + 1 := IntWalk.i64_in _ (by omega)
  have hc1 : ((t.at_ + 1 : Nat) : Int) = (t.at_ : Int) + 1 := by omega
  have HC1N := Lib.hid hc1
  clear hc1
  have hj0 : (0 : Int) ≤ (t.at_ : Int) := by omega
  have hj1 : (t.at_ : Int) < (len : Int) := by omega
  have K0 := Lib.hid k0
  have K1 := Lib.hid k1
  have K2 := Lib.hid k2
  have K3 := Lib.hid k3
  clear h hX hI hc k0 k1 k2 k3 hbB htB hgB
  go_enter Tryz.func21, Tryz.ntmps21
  go_wp2_with fail
  go_quiet (fail)
  obtain ⟨wd, hwd⟩ : ∃ wd, w.drewN nq = wd := ⟨_, rfl⟩
  have bd : Below w.heap.size w wd := by rw [← hwd]; exact ⟨rfl, rfl, rfl, Nat.le_refl _, fun _ _ => rfl⟩
  rw [hwd]
  clear hwd
  have c3 := cell_later bd c3
  have hs := (HS0.out.th.later bd)
  have f3 := hs.frozen 3
  have U1 := Lib.hid (SUpd.of HS0.out (Upd.after bd (hs.setFuel n)))
  have hbw := Nat.lt_of_lt_of_le hbw bd.size
  have C1 := Lib.hid (show ∀ j v, w.cell? ⟨b, j, none⟩ = some v → (wd.setCell ⟨tb, 3, none⟩ (.int .i64 (n : Int))).cell? ⟨b, j, none⟩ = some v from fun j v hv => (World.cell?_setCell_other _ _ _ _ (by first | (simp; done) | (simp; omega))).trans (cell_later bd hv))
  clear hs c2 bd
  go_upto_region 4 with fail
  obtain ⟨W1, hW1⟩ : ∃ W1, wd.setCell ⟨tb, 3, none⟩ (.int .i64 (n : Int)) = W1 := ⟨_, rfl⟩
  rw [hW1] at U1 C1 ⊢
  clear hW1 c3 f3
  obtain ⟨x1, s1, q1, q2⟩ := U1.out
  obtain ⟨_, g1, g2, _, _, _, _, _⟩ := s1.th.frame
  rw [hcv] at g1
  have k0 := C1.out _ _ K0.out
  have k1 := C1.out _ _ K1.out
  have k2 := C1.out _ _ K2.out
  have k3 := C1.out _ _ K3.out
  have S1 := Lib.hid s1
  clear s1 q1 q2
  go_upto_region 6 with fail
  obtain ⟨W2, hW2⟩ : ∃ W2, W1.alloc (.cells #[.int .i64 X.op, .int .i64 X.a, .int .i64 X.b, .slice la X.labels.length lc] 29) = W2 := ⟨_, rfl⟩
  have b2 : Below W1.heap.size W1 W2 := by rw [← hW2]; exact (Below.refl _ _).alloc (Nat.le_refl _) _
  have hrow : W2.heap[W1.heap.size]? = some (.cells #[.int .i64 X.op, .int .i64 X.a, .int .i64 X.b, .slice la X.labels.length lc] 29 (0, 0)) := by rw [← hW2]; exact heap_alloc_new _ _
  rw [hW2]
  have s2 := S1.out.th.later b2
  have g2 := s2.frame.2.2.1
  have fz2 := s2.frame.2.2.2.2.2.2.2 2
  have hgl2 := s2.gown.2
  have hnew : W1.heap.size ≠ E.g := by have := S1.out.th.gown.2; omega
  have u3 := U1.out.trans (fun x2 h2 => SUpd.of h2 (Upd.after b2 ((h2.th.later b2).setAt (t.at_ + 1))))
  rw [HC1N.out] at u3
  have U3 := Lib.hid u3
  clear u3
  have HROW := Lib.hid (show (W2.setCell ⟨E.g, 2, none⟩ (.int .i64 ((t.at_ : Int) + 1))).heap[W1.heap.size]? = some (.cells #[.int .i64 X.op, .int .i64 X.a, .int .i64 X.b, .slice la X.labels.length lc] 29 (0, 0)) from (Below.heap_setCell _ _ _ _ hnew).trans hrow)
  clear hW2 k0 k1 k2 k3 g1 s2 hrow b2
  go_upto_region 8 with fail
  obtain ⟨W3, hW3⟩ : ∃ W3, W2.setCell ⟨E.g, 2, none⟩ (.int .i64 ((t.at_ : Int) + 1)) = W3 := ⟨_, rfl⟩
  rw [hW3] at U3 HROW ⊢
  clear hW3 g2 fz2
  have r0 : W3.cell? ⟨W1.heap.size, 0, none⟩ = some (.int .i64 X.op) := cell_of_row W3 _ _ _ _ _ HROW.out
  have r1 : W3.cell? ⟨W1.heap.size, 1, none⟩ = some (.int .i64 X.a) := cell_of_row W3 _ _ _ _ _ HROW.out
  have r2 : W3.cell? ⟨W1.heap.size, 2, none⟩ = some (.int .i64 X.b) := cell_of_row W3 _ _ _ _ _ HROW.out
  have r3 : W3.cell? ⟨W1.heap.size, 3, none⟩ = some (.slice la X.labels.length lc) := cell_of_row W3 _ _ _ _ _ HROW.out
  have hr : W1.heap.size < W3.heap.size := (Array.getElem?_eq_some_iff.1 HROW.out).1
  have HCC := Lib.hid (HC.out W3 _ U3.out HI.out)
  unfold insV at HCC
  clear HC
  go_wp2_with fail
  refine HCC.out.mono ?_
  rintro e w4 ⟨rfl, p4⟩
  have P4 := Lib.hid p4
  clear p4 r0 r1 r2 r3
  go_wp2_with fail
  go_end0
  exact ⟨rfl, P4.out⟩
set_option maxRecDepth 100000 in
set_option maxHeartbeats 4000000 in
theorem step_simple (w : World) (B tb : Nat) (K : Mk) (gs : List Nat) (E : Tc) (x : Tx) (t : Th) (h : SAt w B tb K gs E x t) (n : Nat) (X : InsL) (hX : At K E t n X) (P : World → Prop)
    (hc : (∀ W lv, IntsAt K.w0 lv X.labels → Calls Tryz.prog 43 #[.pointer (some ⟨tb, 0, none⟩), .pointer (some ⟨E.g, 0, none⟩), .int .i64 (t.at_ : Int), insV X lv] W fun e w' => e = .returned (.bool false) ∧ Below W.heap.size W w') ∧ ∀ W lv, SUpd w B tb K gs E x (nextT t n) W → IntsAt K.w0 lv X.labels → Calls Tryz.prog 44 #[.pointer (some ⟨tb, 0, none⟩), .pointer (some ⟨E.g, 0, none⟩), insV X lv] W fun e w' => e = .returned (.bool true) ∧ P w') :
    Calls Tryz.prog 21 #[.pointer (some ⟨tb, 0, none⟩)] w fun e w' => e = .returned (.tuple #[]) ∧ P w' := by
  obtain ⟨b, off, len, cap, lv, hcv, hl0, hl1, hbl, hI, k0, k1, k2, k3⟩ := hX.cells h.ma.old
  obtain ⟨la, lc, hlv⟩ := intsAt_form hI
  subst hlv
  obtain ⟨_, _, c2, c3, _⟩ := h.th.cells
  rw [hX.fuel] at c3
  have HI := Lib.hid hI
  have HS0 := Lib.hid h
  have hgl := h.th.gown.2
  have htl := h.th.lt
  have hgt := h.th.rest.1
  have hbB : b < B := by have := h.ma.lt; omega
  have htB := h.th.low
  have hgB := h.th.gown.1
  have hbt : b ≠ tb := by omega
  have hbg : b ≠ E.g := by omega
  have hbw : b < w.heap.size := by omega
  have HC := Lib.hid hc
  have hn := hX.most
  have hq : (((n + 1 : Nat) : Int) == 0) = false := beq_eq_false_iff_ne.2 (by omega)
  have hq1 : IntKind.i64.wrap (((n + 1 : Nat) : Int) - 1) = (n : Int) := by rw [IntWalk.i64_in _ (by omega)]; omega
  have hq2 : IntKind.i64.wrap ((t.at_ : Int) + 1) = (t.at_ : Int) + 1 := IntWalk.i64_in _ (by omega)
  have hc1 : ((t.at_ + 1 : Nat) : Int) = (t.at_ : Int) + 1 := by omega
  have HC1N := Lib.hid hc1
  clear hc1
  have hj0 : (0 : Int) ≤ (t.at_ : Int) := by omega
  have hj1 : (t.at_ : Int) < (len : Int) := by omega
  have K0 := Lib.hid k0
  have K1 := Lib.hid k1
  have K2 := Lib.hid k2
  have K3 := Lib.hid k3
  clear h hX hI hc k0 k1 k2 k3 hbB htB hgB
  go_enter Tryz.func21, Tryz.ntmps21
  go_wp2_with fail
  go_quiet (fail)
  obtain ⟨wd, hwd⟩ : ∃ wd, w.drewN nq = wd := ⟨_, rfl⟩
  have bd : Below w.heap.size w wd := by rw [← hwd]; exact ⟨rfl, rfl, rfl, Nat.le_refl _, fun _ _ => rfl⟩
  rw [hwd]
  clear hwd
  have c3 := cell_later bd c3
  have hs := (HS0.out.th.later bd)
  have f3 := hs.frozen 3
  have U1 := Lib.hid (SUpd.of HS0.out (Upd.after bd (hs.setFuel n)))
  have hbw := Nat.lt_of_lt_of_le hbw bd.size
  have C1 := Lib.hid (show ∀ j v, w.cell? ⟨b, j, none⟩ = some v → (wd.setCell ⟨tb, 3, none⟩ (.int .i64 (n : Int))).cell? ⟨b, j, none⟩ = some v from fun j v hv => (World.cell?_setCell_other _ _ _ _ (by first | (simp; done) | (simp; omega))).trans (cell_later bd hv))
  clear hs c2 bd
  go_upto_region 4 with fail
  obtain ⟨W1, hW1⟩ : ∃ W1, wd.setCell ⟨tb, 3, none⟩ (.int .i64 (n : Int)) = W1 := ⟨_, rfl⟩
  rw [hW1] at U1 C1 ⊢
  clear hW1 c3 f3
  obtain ⟨x1, s1, q1, q2⟩ := U1.out
  obtain ⟨_, g1, g2, _, _, _, _, _⟩ := s1.th.frame
  rw [hcv] at g1
  have k0 := C1.out _ _ K0.out
  have k1 := C1.out _ _ K1.out
  have k2 := C1.out _ _ K2.out
  have k3 := C1.out _ _ K3.out
  have S1 := Lib.hid s1
  clear s1 q1 q2
  go_upto_region 6 with fail
  obtain ⟨W2, hW2⟩ : ∃ W2, W1.alloc (.cells #[.int .i64 X.op, .int .i64 X.a, .int .i64 X.b, .slice la X.labels.length lc] 29) = W2 := ⟨_, rfl⟩
  have b2 : Below W1.heap.size W1 W2 := by rw [← hW2]; exact (Below.refl _ _).alloc (Nat.le_refl _) _
  have hrow : W2.heap[W1.heap.size]? = some (.cells #[.int .i64 X.op, .int .i64 X.a, .int .i64 X.b, .slice la X.labels.length lc] 29 (0, 0)) := by rw [← hW2]; exact heap_alloc_new _ _
  rw [hW2]
  have s2 := S1.out.th.later b2
  have g2 := s2.frame.2.2.1
  have fz2 := s2.frame.2.2.2.2.2.2.2 2
  have hgl2 := s2.gown.2
  have hnew : W1.heap.size ≠ E.g := by have := S1.out.th.gown.2; omega
  have u3 := U1.out.trans (fun x2 h2 => SUpd.of h2 (Upd.after b2 ((h2.th.later b2).setAt (t.at_ + 1))))
  rw [HC1N.out] at u3
  have U3 := Lib.hid u3
  clear u3
  have HROW := Lib.hid (show (W2.setCell ⟨E.g, 2, none⟩ (.int .i64 ((t.at_ : Int) + 1))).heap[W1.heap.size]? = some (.cells #[.int .i64 X.op, .int .i64 X.a, .int .i64 X.b, .slice la X.labels.length lc] 29 (0, 0)) from (Below.heap_setCell _ _ _ _ hnew).trans hrow)
  clear hW2 k0 k1 k2 k3 g1 s2 hrow b2
  go_upto_region 8 with fail
  obtain ⟨W3, hW3⟩ : ∃ W3, W2.setCell ⟨E.g, 2, none⟩ (.int .i64 ((t.at_ : Int) + 1)) = W3 := ⟨_, rfl⟩
  rw [hW3] at U3 HROW ⊢
  clear hW3 g2 fz2
  have r0 : W3.cell? ⟨W1.heap.size, 0, none⟩ = some (.int .i64 X.op) := cell_of_row W3 _ _ _ _ _ HROW.out
  have r1 : W3.cell? ⟨W1.heap.size, 1, none⟩ = some (.int .i64 X.a) := cell_of_row W3 _ _ _ _ _ HROW.out
  have r2 : W3.cell? ⟨W1.heap.size, 2, none⟩ = some (.int .i64 X.b) := cell_of_row W3 _ _ _ _ _ HROW.out
  have r3 : W3.cell? ⟨W1.heap.size, 3, none⟩ = some (.slice la X.labels.length lc) := cell_of_row W3 _ _ _ _ _ HROW.out
  have hr : W1.heap.size < W3.heap.size := (Array.getElem?_eq_some_iff.1 HROW.out).1
  have HC1 := Lib.hid (HC.out.1 W3 _ HI.out)
  have HC2 := Lib.hid (fun (W : World) (hb : Below W3.heap.size W3 W) => HC.out.2 W _ (U3.out.then_ hb) HI.out)
  unfold insV at HC1 HC2
  clear HC
  go_wp2_with fail
  refine HC1.out.mono ?_
  rintro e w4 ⟨rfl, b4⟩
  have r0 := cell_later b4 r0
  have r1 := cell_later b4 r1
  have r2 := cell_later b4 r2
  have r3 := cell_later b4 r3
  have HC3 := Lib.hid (HC2.out w4 b4)
  clear b4 HC1 HC2
  go_wp2_with fail
  refine HC3.out.mono ?_
  rintro e w5 ⟨rfl, p5⟩
  have P5 := Lib.hid p5
  clear p5 r0 r1 r2 r3
  go_wp2_with fail
  go_end0
  exact ⟨rfl, P5.out⟩
end Go.Proofs.YtmbgemcddjailaaGreatDoor.Run

/- RunE: What control leaves alone; a function's end; what simple does. No condition beyond what each theorem names. -/
namespace Go.Proofs.YtmbgemcddjailaaGreatDoor.Run
open Go.RowKit Go.Maps Go.Proofs.YtmbgemcddjailaaGreatDoor.Op Go.Proofs.YtmbgemcddjailaaGreatDoor.Mod
set_option linter.unusedVariables false
abbrev insB (op a b : Int) (la : Option Addr) (ln lc : Nat) : Obj := .cells #[.int .i64 op, .int .i64 a, .int .i64 b, .slice la ln lc] 29
set_option maxRecDepth 100000 in
set_option maxHeartbeats 1000000 in
theorem control_no_66 (w : World) (tp fp : Value) (k a b : Int) (la : Option Addr) (ln lc : Nat) :
    Calls Tryz.prog 43 #[tp, fp, .int .i64 k, .agg #[.int .i64 66, .int .i64 a, .int .i64 b, .slice la ln lc]] w fun e w' => e = .returned (.bool false) ∧ Below w.heap.size w w' := by
  go_enter Tryz.func43, Tryz.ntmps43
  go_wp2_with fail
  go_ret
  exact ⟨rfl, (Below.refl _ _).alloc (Nat.le_refl _) _⟩
set_option maxRecDepth 100000 in
set_option maxHeartbeats 1000000 in
theorem control_no_65 (w : World) (tp fp : Value) (k a b : Int) (la : Option Addr) (ln lc : Nat) :
    Calls Tryz.prog 43 #[tp, fp, .int .i64 k, .agg #[.int .i64 65, .int .i64 a, .int .i64 b, .slice la ln lc]] w fun e w' => e = .returned (.bool false) ∧ Below w.heap.size w w' := by
  go_enter Tryz.func43, Tryz.ntmps43
  go_wp2_with fail
  go_ret
  exact ⟨rfl, (Below.refl _ _).alloc (Nat.le_refl _) _⟩
set_option maxRecDepth 100000 in
set_option maxHeartbeats 1000000 in
theorem control_no_32 (w : World) (tp fp : Value) (k a b : Int) (la : Option Addr) (ln lc : Nat) :
    Calls Tryz.prog 43 #[tp, fp, .int .i64 k, .agg #[.int .i64 32, .int .i64 a, .int .i64 b, .slice la ln lc]] w fun e w' => e = .returned (.bool false) ∧ Below w.heap.size w w' := by
  go_enter Tryz.func43, Tryz.ntmps43
  go_wp2_with fail
  go_ret
  exact ⟨rfl, (Below.refl _ _).alloc (Nat.le_refl _) _⟩
set_option maxRecDepth 100000 in
set_option maxHeartbeats 1000000 in
theorem control_no_33 (w : World) (tp fp : Value) (k a b : Int) (la : Option Addr) (ln lc : Nat) :
    Calls Tryz.prog 43 #[tp, fp, .int .i64 k, .agg #[.int .i64 33, .int .i64 a, .int .i64 b, .slice la ln lc]] w fun e w' => e = .returned (.bool false) ∧ Below w.heap.size w w' := by
  go_enter Tryz.func43, Tryz.ntmps43
  go_wp2_with fail
  go_ret
  exact ⟨rfl, (Below.refl _ _).alloc (Nat.le_refl _) _⟩
set_option maxRecDepth 100000 in
set_option maxHeartbeats 1000000 in
theorem control_no_34 (w : World) (tp fp : Value) (k a b : Int) (la : Option Addr) (ln lc : Nat) :
    Calls Tryz.prog 43 #[tp, fp, .int .i64 k, .agg #[.int .i64 34, .int .i64 a, .int .i64 b, .slice la ln lc]] w fun e w' => e = .returned (.bool false) ∧ Below w.heap.size w w' := by
  go_enter Tryz.func43, Tryz.ntmps43
  go_wp2_with fail
  go_ret
  exact ⟨rfl, (Below.refl _ _).alloc (Nat.le_refl _) _⟩
set_option maxRecDepth 100000 in
set_option maxHeartbeats 1000000 in
theorem control_no_35 (w : World) (tp fp : Value) (k a b : Int) (la : Option Addr) (ln lc : Nat) :
    Calls Tryz.prog 43 #[tp, fp, .int .i64 k, .agg #[.int .i64 35, .int .i64 a, .int .i64 b, .slice la ln lc]] w fun e w' => e = .returned (.bool false) ∧ Below w.heap.size w w' := by
  go_enter Tryz.func43, Tryz.ntmps43
  go_wp2_with fail
  go_ret
  exact ⟨rfl, (Below.refl _ _).alloc (Nat.le_refl _) _⟩
set_option maxRecDepth 100000 in
set_option maxHeartbeats 1000000 in
theorem control_no_36 (w : World) (tp fp : Value) (k a b : Int) (la : Option Addr) (ln lc : Nat) :
    Calls Tryz.prog 43 #[tp, fp, .int .i64 k, .agg #[.int .i64 36, .int .i64 a, .int .i64 b, .slice la ln lc]] w fun e w' => e = .returned (.bool false) ∧ Below w.heap.size w w' := by
  go_enter Tryz.func43, Tryz.ntmps43
  go_wp2_with fail
  go_ret
  exact ⟨rfl, (Below.refl _ _).alloc (Nat.le_refl _) _⟩
set_option maxRecDepth 100000 in
set_option maxHeartbeats 1000000 in
theorem control_no_26 (w : World) (tp fp : Value) (k a b : Int) (la : Option Addr) (ln lc : Nat) :
    Calls Tryz.prog 43 #[tp, fp, .int .i64 k, .agg #[.int .i64 26, .int .i64 a, .int .i64 b, .slice la ln lc]] w fun e w' => e = .returned (.bool false) ∧ Below w.heap.size w w' := by
  go_enter Tryz.func43, Tryz.ntmps43
  go_wp2_with fail
  go_ret
  exact ⟨rfl, (Below.refl _ _).alloc (Nat.le_refl _) _⟩
set_option maxRecDepth 100000 in
set_option maxHeartbeats 1000000 in
theorem control_no_27 (w : World) (tp fp : Value) (k a b : Int) (la : Option Addr) (ln lc : Nat) :
    Calls Tryz.prog 43 #[tp, fp, .int .i64 k, .agg #[.int .i64 27, .int .i64 a, .int .i64 b, .slice la ln lc]] w fun e w' => e = .returned (.bool false) ∧ Below w.heap.size w w' := by
  go_enter Tryz.func43, Tryz.ntmps43
  go_wp2_with fail
  go_ret
  exact ⟨rfl, (Below.refl _ _).alloc (Nat.le_refl _) _⟩
set_option maxRecDepth 100000 in
set_option maxHeartbeats 1000000 in
theorem control_no_106 (w : World) (tp fp : Value) (k a b : Int) (la : Option Addr) (ln lc : Nat) :
    Calls Tryz.prog 43 #[tp, fp, .int .i64 k, .agg #[.int .i64 106, .int .i64 a, .int .i64 b, .slice la ln lc]] w fun e w' => e = .returned (.bool false) ∧ Below w.heap.size w w' := by
  go_enter Tryz.func43, Tryz.ntmps43
  go_wp2_with fail
  go_ret
  exact ⟨rfl, (Below.refl _ _).alloc (Nat.le_refl _) _⟩
set_option maxRecDepth 100000 in
set_option maxHeartbeats 1000000 in
theorem control_no_69 (w : World) (tp fp : Value) (k a b : Int) (la : Option Addr) (ln lc : Nat) :
    Calls Tryz.prog 43 #[tp, fp, .int .i64 k, .agg #[.int .i64 69, .int .i64 a, .int .i64 b, .slice la ln lc]] w fun e w' => e = .returned (.bool false) ∧ Below w.heap.size w w' := by
  go_enter Tryz.func43, Tryz.ntmps43
  go_wp2_with fail
  go_ret
  exact ⟨rfl, (Below.refl _ _).alloc (Nat.le_refl _) _⟩
set_option maxRecDepth 100000 in
set_option maxHeartbeats 1000000 in
theorem control_no_54 (w : World) (tp fp : Value) (k a b : Int) (la : Option Addr) (ln lc : Nat) :
    Calls Tryz.prog 43 #[tp, fp, .int .i64 k, .agg #[.int .i64 54, .int .i64 a, .int .i64 b, .slice la ln lc]] w fun e w' => e = .returned (.bool false) ∧ Below w.heap.size w w' := by
  go_enter Tryz.func43, Tryz.ntmps43
  go_wp2_with fail
  go_ret
  exact ⟨rfl, (Below.refl _ _).alloc (Nat.le_refl _) _⟩
set_option maxRecDepth 100000 in
set_option maxHeartbeats 2000000 in
theorem control_end (w : World) (B tb : Nat) (K : Mk) (gs : List Nat) (E : Tc) (x : Tx) (t : Th) (h : SAt w B tb K gs E x t) (hb : t.blocks = []) (hM : 0 < E.many) (hL : E.height + E.many ≤ t.stack.length) (hS : t.stack.length < 3000000000000) (he : t.e = 0) (k a b : Int) (la : Option Addr) (ln lc : Nat) :
    Calls Tryz.prog 43 #[.pointer (some ⟨tb, 0, none⟩), .pointer (some ⟨E.g, 0, none⟩), .int .i64 k, .agg #[.int .i64 11, .int .i64 a, .int .i64 b, .slice la ln lc]] w fun e w' => e = .returned (.bool true) ∧ Fin w B tb K gs E x (unwindL t.stack E.height E.many) t.fuel w' := by
  have B0 : Below w.heap.size w (w.alloc (insB 11 a b la ln lc)) := (Below.refl _ _).alloc (Nat.le_refl _) _
  have HH := Lib.hid h
  obtain ⟨W0, hW0⟩ : ∃ W0, w.alloc (insB 11 a b la ln lc) = W0 := ⟨_, rfl⟩
  rw [hW0] at B0
  have r0 : W0.cell? ⟨w.heap.size, 0, none⟩ = some (.int .i64 11) := by rw [← hW0, World.cell?_alloc_at _ _ _ _ rfl]; rfl
  have r1 : W0.cell? ⟨w.heap.size, 1, none⟩ = some (.int .i64 a) := by rw [← hW0, World.cell?_alloc_at _ _ _ _ rfl]; rfl
  have HW0 := Lib.hid hW0
  have HB0 := Lib.hid B0
  have hbk := h.th.blk
  rw [hb] at hbk
  obtain ⟨ba, bc, hbv⟩ := own_form hbk
  have g6 := (h.th.later B0).frame.2.2.2.2.2.2.1
  rw [hbv] at g6
  have HR := Lib.hid (returns_any W0 B tb K gs E x t ⟨h.th.later B0, h.ma.later B0, h.mv⟩ hM hL hS he)
  clear h hb hM hL hS he hbk B0 hW0 r1
  go_enter Tryz.func43, Tryz.ntmps43
  go_upto_region 1 with fail
  rw [HW0.out]
  go_wp2_with fail
  refine HR.out.mono ?_
  rintro e w1 ⟨rfl, u1⟩
  have U1 := Lib.hid u1
  clear u1 HR g6 r0
  go_wp2_with fail
  go_ret
  obtain ⟨f1, f2, f3⟩ := U1.out
  exact ⟨rfl, f1, f2, ⟨f3.os.trans HB0.out.os, f3.tape.trans HB0.out.tape, f3.output.trans HB0.out.output, Nat.le_trans HB0.out.size f3.size, fun j hj hf => (f3.block j (Nat.lt_of_lt_of_le hj HB0.out.size) hf).trans (HB0.out.block j hj)⟩⟩
set_option maxRecDepth 100000 in
set_option maxHeartbeats 2000000 in
theorem simple_66 (w : World) (B tb : Nat) (K : Mk) (gs : List Nat) (E : Tc) (x : Tx) (t : Th) (h : SAt w B tb K gs E x t) (hS : t.stack.length < 4096) (a b : Int) (la : Option Addr) (ln lc : Nat) (n : Nat) (hn : IntKind.u64.wrap a = (n : Int)) :
    Calls Tryz.prog 44 #[.pointer (some ⟨tb, 0, none⟩), .pointer (some ⟨E.g, 0, none⟩), .agg #[.int .i64 66, .int .i64 a, .int .i64 b, .slice la ln lc]] w fun e w' => e = .returned (.bool true) ∧ SUpd w B tb K gs E x { t with stack := t.stack ++ [n] } w' := by
  have B0 : Below w.heap.size w (w.alloc (insB 66 a b la ln lc)) := (Below.refl _ _).alloc (Nat.le_refl _) _
  have HH := Lib.hid h
  obtain ⟨W0, hW0⟩ : ∃ W0, w.alloc (insB 66 a b la ln lc) = W0 := ⟨_, rfl⟩
  rw [hW0] at B0
  have r0 : W0.cell? ⟨w.heap.size, 0, none⟩ = some (.int .i64 66) := by rw [← hW0, World.cell?_alloc_at _ _ _ _ rfl]; rfl
  have r1 : W0.cell? ⟨w.heap.size, 1, none⟩ = some (.int .i64 a) := by rw [← hW0, World.cell?_alloc_at _ _ _ _ rfl]; rfl
  have HW0 := Lib.hid hW0
  have HB0 := Lib.hid B0
  have HP := Lib.hid (push_any n W0 B tb E x t (h.th.later B0) (Nat.le_trans h.ma.wB B0.size) hS)
  clear h hS B0 hW0
  go_enter Tryz.func44, Tryz.ntmps44
  go_upto_region 1 with fail
  rw [HW0.out]
  go_wp2_with fail
  refine HP.out.mono ?_
  rintro e w1 ⟨rfl, u1⟩
  have U1 := Lib.hid u1
  clear u1 HP r0 r1
  go_wp2_with fail
  go_ret
  exact ⟨rfl, SUpd.of HH.out (Upd.after HB0.out U1.out)⟩
set_option maxRecDepth 100000 in
set_option maxHeartbeats 2000000 in
theorem simple_32 (w : World) (B tb : Nat) (K : Mk) (gs : List Nat) (E : Tc) (x : Tx) (t : Th) (h : SAt w B tb K gs E x t) (hS : t.stack.length < 4096) (i : Nat) (n : Nat) (hn : t.locals[i]? = some n) (hl : t.locals.length < 3000000000000) (b : Int) (la : Option Addr) (ln lc : Nat) :
    Calls Tryz.prog 44 #[.pointer (some ⟨tb, 0, none⟩), .pointer (some ⟨E.g, 0, none⟩), .agg #[.int .i64 32, .int .i64 (i : Int), .int .i64 b, .slice la ln lc]] w fun e w' => e = .returned (.bool true) ∧ SUpd w B tb K gs E x { t with stack := t.stack ++ [n] } w' := by
  obtain ⟨a, ha⟩ : ∃ a : Int, a = (i : Int) := ⟨_, rfl⟩
  rw [← ha]
  have B0 : Below w.heap.size w (w.alloc (insB 32 a b la ln lc)) := (Below.refl _ _).alloc (Nat.le_refl _) _
  have HH := Lib.hid h
  obtain ⟨W0, hW0⟩ : ∃ W0, w.alloc (insB 32 a b la ln lc) = W0 := ⟨_, rfl⟩
  rw [hW0] at B0
  have r0 : W0.cell? ⟨w.heap.size, 0, none⟩ = some (.int .i64 32) := by rw [← hW0, World.cell?_alloc_at _ _ _ _ rfl]; rfl
  have r1 : W0.cell? ⟨w.heap.size, 1, none⟩ = some (.int .i64 a) := by rw [← hW0, World.cell?_alloc_at _ _ _ _ rfl]; rfl
  have HW0 := Lib.hid hW0
  have HB0 := Lib.hid B0
  have hil := (List.getElem?_eq_some_iff.1 hn).1
  obtain ⟨la0, cap, hx, hcap, hform⟩ := nats_form (h.th.later B0).loc
  obtain ⟨lb, rfl, _, hlb, hat, _⟩ := hform (by omega)
  have ct := hat i n hn
  have g3 := (h.th.later B0).frame.2.2.2.1
  have hgl := (h.th.later B0).gown.2
  rw [hx] at g3
  have hi0 : (0 : Int) ≤ (i : Int) := by omega
  have hi1 : (i : Int) < (t.locals.length : Int) := by omega
  have HP := Lib.hid (push_any n W0.drew B tb E x t ((h.th.later B0).later (Below.refl _ _).drew) (Nat.le_trans h.ma.wB B0.size) hS)
  rw [ha] at r1 HW0 ⊢
  clear h hS B0 hW0 ha hn hil hx hcap hform hat
  go_enter Tryz.func44, Tryz.ntmps44
  go_upto_region 1 with fail
  rw [HW0.out]
  go_wp2_with fail
  go_still_tail 9, (by kernel_rfl)
  change wpList _ _ _ _ _ W0.drew
  obtain ⟨wd, hwd⟩ : ∃ wd, W0.drew = wd := ⟨_, rfl⟩
  have bd : Below W0.heap.size W0 wd := by rw [← hwd]; exact (Below.refl _ _).drew
  have HBD := Lib.hid bd
  rw [hwd] at HP ⊢
  have ct := cell_later bd ct
  have g3 := cell_later bd g3
  have r1 := cell_later bd r1
  clear hwd bd
  go_wp2_with fail
  refine HP.out.mono ?_
  rintro e w1 ⟨rfl, u1⟩
  have U1 := Lib.hid u1
  clear u1 HP r0 r1 ct g3
  go_wp2_with fail
  go_ret
  exact ⟨rfl, SUpd.of HH.out (Upd.after (HB0.out.trans (HBD.out.mono HB0.out.size)) U1.out)⟩
end Go.Proofs.YtmbgemcddjailaaGreatDoor.Run

/- RunF: What cut and enter do. No condition beyond what each theorem names. -/
namespace Go.Proofs.YtmbgemcddjailaaGreatDoor.Run
open Go.RowKit Go.Maps Go.Proofs.YtmbgemcddjailaaGreatDoor.Op Go.Proofs.YtmbgemcddjailaaGreatDoor.Mod
set_option linter.unusedVariables false
theorem and_half (n : Nat) (hn : n < 18446744073709551616) : bits .and .u64 (n : Int) 4294967295 = ((n % 4294967296 : Nat) : Int) := by
  unfold bits
  have h1 : (BitVec.ofInt 64 (n : Int)).toNat = n := by rw [BitVec.ofInt_natCast, BitVec.toNat_ofNat]; exact Nat.mod_eq_of_lt hn
  have h2 : (BitVec.ofInt 64 (4294967295 : Int)).toNat = 2 ^ 32 - 1 := by decide
  show IntKind.u64.wrap ((BitVec.ofInt 64 (n : Int) &&& BitVec.ofInt 64 4294967295).toNat : Int) = ((n % 2 ^ 32 : Nat) : Int)
  rw [BitVec.toNat_and, h1, h2, Nat.and_two_pow_sub_one_eq_mod]
  exact IntWalk.u64_in _ (by have := Nat.mod_lt n (show 0 < 2 ^ 32 by decide); omega)
def cutP (k : Int) (n : Nat) : Nat := if k = 127 then n % 4294967296 else n
set_option maxRecDepth 100000 in
theorem cut_any (k : Int) (n : Nat) (hn : n < 18446744073709551616) (w : World) :
    Calls Tryz.prog 18 #[.int .i64 k, .int .u64 (n : Int)] w fun e w' => e = .returned (.int .u64 (cutP k n : Int)) ∧ Below w.heap.size w w' := by
  have hh := and_half n hn
  by_cases h : k = 127
  · subst h
    go_enter Tryz.func18, Tryz.ntmps18
    go_wp2_with fail
    go_ret
    exact ⟨rfl, Below.refl _ _⟩
  · have hk : (k == 127) = false := beq_eq_false_iff_ne.2 h
    have hc : cutP k n = n := by unfold cutP; rw [if_neg h]
    rw [hc]
    go_enter Tryz.func18, Tryz.ntmps18
    go_wp2_with fail
    go_ret
    exact ⟨rfl, Below.refl _ _⟩
/-- the locals, the first k params laid -/
def locF (ps : List UInt8) (av : List Nat) (n k : Nat) : List Nat := (List.range n).map fun j => if j < k then cutP ((ps.getD j 0).toNat : Int) (av.getD j 0) else 0
theorem locF_len (ps : List UInt8) (av : List Nat) (n k : Nat) : (locF ps av n k).length = n := by simp [locF]
theorem locF_zero (ps : List UInt8) (av : List Nat) (n : Nat) : locF ps av n 0 = List.replicate n 0 := by
  unfold locF
  refine List.ext_getElem? fun i => ?_
  by_cases hi : i < n
  · simp [hi]
  · simp [hi]
theorem locF_succ (ps : List UInt8) (av : List Nat) (n k : Nat) : locF ps av n (k + 1) = (locF ps av n k).set k (cutP ((ps.getD k 0).toNat : Int) (av.getD k 0)) := by
  refine List.ext_getElem? fun i => ?_
  unfold locF
  rw [List.getElem?_set]
  by_cases hi : i < n
  · by_cases h2 : k = i
    · subst h2
      simp [hi]
    · have e : (i < k + 1) = (i < k) := by rw [eq_iff_iff]; omega
      simp [hi, h2, e]
  · simp [hi]
    intro h
    omega
set_option maxRecDepth 100000 in
theorem make_nats (n : Nat) (hn : n ≤ 100000) (W : World) : (Instr.makeSlice 46 (.int .i64 (n : Int)) (.int .i64 (n : Int))).run Tryz.prog W = .ok (.slice (some ⟨W.heap.size, 0, none⟩) n n) (W.alloc (.cells (Array.replicate n (Value.int .u64 0)) 22)) := by
  obtain ⟨i0, hi, hz0, hz1, hz2⟩ := info_of info_u64
  have h := run_make (P := Tryz.prog) W 46 22 i0 (.int .u64 0) Tryz.underlying46 hi hz0 .i64 .i64 (n : Int) (n : Int) (by omega) (by omega) (by rw [hz2]; omega) (by omega)
  rw [h, hz1, Int.toNat_natCast]
  have e : madeCells (Value.int .u64 0).cells (n * 1) = Array.replicate n (Value.int .u64 0) := by
    apply Array.toList_inj.1
    show (madeCells #[Value.int .u64 0] (n * 1)).toList = _
    rw [toList_madeCells_one, Nat.mul_one, Array.toList_replicate]
  rw [e]
end Go.Proofs.YtmbgemcddjailaaGreatDoor.Run
