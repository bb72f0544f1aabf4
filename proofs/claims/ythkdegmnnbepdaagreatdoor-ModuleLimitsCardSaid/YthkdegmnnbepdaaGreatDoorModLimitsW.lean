/-
  The law of limits: the walk itself. No condition beyond what each theorem names.
-/
import Derived.Test.YthkdegmnnbepdaaGreatDoorModLimits
namespace Go.Proofs.YthkdegmnnbepdaaGreatDoor.Mod
open Go.RowKit Go.Maps Go.Proofs.YthkdegmnnbepdaaGreatDoor.Op Go.Proofs.YthkdegmnnbepdaaGreatDoor.Pg
set_option linter.unusedVariables false
theorem lasts_step : Lasts isStep := fun _ _ _ _ h _ => h
theorem right_call {W : World} {t : Value} {ts : List FT} {code : List Ins} {st mx i0 i1 ix : Int} {bf bm bg be bd : Nat} (hE : MEnv W) (hm : ModAt W t (slV bf 1) (slV bm 1) (slV bg 2) (slV be 1) st (slV bd 1) (modX ts code st mx i0 i1 ix))
    (h1 : structB [] (code.map Ins.op) = true) (h2 : ∀ x ∈ code, okI x = true) {r : Bool} (hr : ((st == -1 || wordB st) && (allB ts rightFT && ((mx == -1 || wordB mx) && (i0 == wrap32 i0 && wordB ix)))) = r) :
    Calls Tryz.prog 11 #[.agg #[t, .slice (some ⟨bf, 0, none⟩) 1 1, .slice (some ⟨bm, 0, none⟩) 1 1, .slice (some ⟨bg, 0, none⟩) 2 2, .slice (some ⟨be, 0, none⟩) 1 1, .int .i64 st, .slice (some ⟨bd, 0, none⟩) 1 1]] W fun e w' => e = .returned (.bool r) ∧ Below W.heap.size W w' := by
  have h := rightM_any _ _ _ _ _ _ _ _ W hE hm
  rw [right_modX _ _ _ _ _ _ _ h1 h2, hr] at h
  exact h
theorem u64_pos (n : Int) : 0 ≤ IntKind.u64.wrap n := by
  simp only [IntKind.wrap]
  exact Int.emod_nonneg _ (by decide)
theorem wordT {n : Int} (h0 : 0 ≤ n) (h1 : n < 4294967296) : wordB n = true := by unfold wordB; simp; omega
theorem wordF {n : Int} (h : n < 0 ∨ 4294967296 ≤ n) : wordB n = false := by unfold wordB; simp; omega
theorem w32T {n : Int} (h0 : -2147483648 ≤ n) (h1 : n < 2147483648) : (n == wrap32 n) = true := by
  have : wrap32 n = n := by unfold wrap32; omega
  rw [this]
  simp
theorem w32F {n : Int} (h : n < -2147483648 ∨ 2147483648 ≤ n) : (n == wrap32 n) = false := by
  have : n ≠ wrap32 n := by unfold wrap32; omega
  simpa using this
theorem empties_right (q : Nat) : allB (List.replicate q (⟨⟨#[]⟩, ⟨#[]⟩⟩ : FT)) rightFT = decide (q ≤ 4096) := by
  unfold allB
  rw [List.length_replicate]
  have : (List.replicate q (⟨⟨#[]⟩, ⟨#[]⟩⟩ : FT)).all rightFT = true := by
    rw [List.all_eq_true]
    intro x hx
    rw [(List.mem_replicate.1 hx).2]
    decide
  rw [this, Bool.and_true]
theorem empties_at (W : World) (q : Nat) (hq : q ≤ 5000) : TypesAt (W.alloc (.cells (madeCells #[.string ⟨#[]⟩, .string ⟨#[]⟩] (q * 2)) 68)) (.slice (some ⟨W.heap.size, 0, none⟩) q q) (List.replicate q ⟨⟨#[]⟩, ⟨#[]⟩⟩) := by
  have hl : q = (List.replicate q (⟨⟨#[]⟩, ⟨#[]⟩⟩ : FT)).length := by rw [List.length_replicate]
  have key : TypesAt (W.alloc (.cells (madeCells #[.string ⟨#[]⟩, .string ⟨#[]⟩] (q * 2)) 68)) (.slice (some ⟨W.heap.size, 0, none⟩) (List.replicate q (⟨⟨#[]⟩, ⟨#[]⟩⟩ : FT)).length q) (List.replicate q ⟨⟨#[]⟩, ⟨#[]⟩⟩) := by
    refine ListAt.mk (by rw [List.length_replicate]; omega) (fun i x hi => ?_)
    have hx := (List.mem_replicate.1 (List.mem_of_getElem? hi)).2
    have hlt := (List.getElem?_eq_some_iff.1 hi).1
    rw [List.length_replicate] at hlt
    subst hx
    refine ⟨[.string ⟨#[]⟩, .string ⟨#[]⟩], ⟨rfl, by decide, by decide⟩, rfl, W.heap.size, 0, rfl, by simp, fun j u hu => ?_⟩
    have hj := (List.getElem?_eq_some_iff.1 hu).1
    have hj2 : j < 2 := by simpa using hj
    rw [World.cell?_alloc_at _ _ _ _ rfl]
    unfold madeCells
    rw [Array.getElem?_map, Array.getElem?_range, if_pos (by omega), ← hu, Option.map_some]
    match j, hj2 with
    | 0, _ => simp
    | 1, _ => simp
  rw [← hl] at key
  exact key
theorem types_one {w : World} {b : Nat} (h : w.heap[b]? = some (.cells #[.string ⟨#[126, 127]⟩, .string ⟨#[126]⟩] 68 (0, 0))) : TypesAt w (.slice (some ⟨b, 0, none⟩) 1 1) oneFT := by
  refine row_of_block h _ _ _ rfl (by simp [oneFT]) (fun i x hi => ?_)
  obtain ⟨rfl, rfl⟩ := one_at hi
  exact ⟨⟨rfl, (show 2 ≤ 9223372036854775807 by decide), (show 1 ≤ 9223372036854775807 by decide)⟩, rfl⟩
theorem types_set {w : World} {b g n c : Nat} {l : List FT} (h : TypesAt w (.slice (some ⟨g, 0, none⟩) n c) l) (hne : g ≠ b) {j : Nat} {u : Value} : TypesAt (w.setCell ⟨b, j, none⟩ u) (.slice (some ⟨g, 0, none⟩) n c) l := by
  obtain ⟨la, c', hv, hle, hx⟩ := ListAt.form h
  simp only [Value.slice.injEq] at hv
  obtain ⟨rfl, rfl, rfl⟩ := hv
  refine ListAt.mk hle (fun i x hi => ?_)
  obtain ⟨r, h1, h2, b', off, e, h3, h4⟩ := hx i x hi
  simp only [Option.some.injEq, Addr.mk.injEq, and_true] at e
  obtain ⟨rfl, rfl⟩ := e
  exact ⟨r, h1, h2, g, 0, rfl, by simpa [World.setCell] using h3, fun j' u' hu => by rw [World.cell?_setCell_other _ _ _ _ (fun e => hne (by injection e with e1; exact e1.symm))]; exact h4 j' u' hu⟩
set_option maxRecDepth 100000 in
set_option maxHeartbeats 8000000 in
theorem limits_0 (l : List Step) (which : Nat) (n : Int) (w : World) (hE : MEnv w) (hP : PowEnv w) (hw8 : which < 256) (hn0 : -9223372036854775808 ≤ n) (hn1 : n ≤ 9223372036854775807) (la : Option Addr) (lc : Nat) (hcap : l.length ≤ lc) (hv : StepsAt w (.slice la l.length lc) l) (hk : which % 6 = 0) :
    Calls Tryz.prog 9 #[.slice la l.length lc, .int .u8 (which : Int), .int .i64 n] w fun e w' => e = .returned (.bool true) ∧ Below w.heap.size w w' := by
  have hv2 := hv
  obtain ⟨_, _, _, hle, _⟩ := hv2.form
  have HX := Lib.hid (examples04 w hE hP)
  have HV := Lib.hid hv
  have HE := Lib.hid hE
  have HK := Lib.hid hk
  clear hE hP hv hv2 hk
  obtain ⟨M, hM⟩ : ∃ M, min l.length 20 = M := ⟨_, rfl⟩
  have hM1 : M ≤ l.length := by omega
  have hM2 : M ≤ lc := by omega
  have hM3 : min (l.length : Int) 20 = (M : Int) := by omega
  have HMM := Lib.hid hM
  clear hM
  have t0 : ((which : Int) % 6 == 0) = true := by have := HK.out; simp; omega
  go_enter Tryz.func9, Tryz.ntmps9
  go_wp2_with fail
  refine HX.out.mono ?_
  rintro e w1 ⟨rfl, c1⟩
  have C1 := Lib.hid c1
  clear c1
  go_wp2_with fail
  refine (made_any _ (l.take 20) w1 (ListAt.take (HV.out.later lasts_step C1.out) 20 M (by rw [List.length_take, ← HMM.out]; omega)) (made_opsWf _)).mono ?_
  rintro e w2 ⟨⟨bt, bf, bm, bg, be, bd, cv, rfl, hA⟩, c2⟩
  obtain ⟨w3, hw3⟩ : ∃ w3, w2.alloc (.cells #[slV bt 1, slV bf 1, slV bm 1, slV bg 2, slV be 1, .int .i64 (-1), slV bd 1] 29) = w3 := ⟨_, rfl⟩
  have k3 : Below w2.heap.size w2 w3 := by rw [← hw3]; exact (Below.refl _ _).alloc (Nat.le_refl _) _
  have hA3 := hA.later k3
  have hbox : w3.heap[w2.heap.size]? = some (.cells #[slV bt 1, slV bf 1, slV bm 1, slV bg 2, slV be 1, .int .i64 (-1), slV bd 1] 29 (0, 0)) := by rw [← hw3]; exact heap_alloc_new _ _
  have HS12 := Lib.hid c2.size
  have B3 := Lib.hid (C1.out.trans ((c2.trans (k3.mono c2.size)).mono C1.out.size))
  have HA3 := Lib.hid hA3
  have HBOX := Lib.hid hbox
  have HST := Lib.hid (made_struct (l.take 20))
  have HOK := Lib.hid (made_oks (l.take 20))
  unfold slV at hw3 hbox
  unfold madeV modV slV
  clear hA c2 k3 hA3
  go_upto_region 5 with fail
  clear hw3
  obtain ⟨q0, q1, q2, q3, q4, q5, q6⟩ := box_cells hbox
  have y0 : w3.frozen? ⟨w2.heap.size, 0, none⟩ = false := frozen_of_row _ _ _ _ _ hbox
  have y5 : w3.frozen? ⟨w2.heap.size, 5, none⟩ = false := frozen_of_row _ _ _ _ _ hbox
  have hlt2 : w2.heap.size < w3.heap.size := World.block_lt_of_cell? _ _ q0
  clear hbox
  have HW12 := Lib.hid (show w1.heap.size ≤ w2.heap.size from HS12.out)
  have HW2 := Lib.hid (Nat.le_trans C1.out.size HW12.out)
  rcases (show n < -2147483648 ∨ (-2147483648 ≤ n ∧ n < -1) ∨ n = -1 ∨ (0 ≤ n ∧ n < 2147483648) ∨ (2147483648 ≤ n ∧ n < 4294967296) ∨ 4294967296 ≤ n by omega) with hn | hn | hn | hn | hn | hn
  · have HN := Lib.hid hn
    have g1 : decide (0 ≤ n) = false := decide_eq_false (by omega)
    have g2 : decide (n < 4294967296) = true := decide_eq_true (by omega)
    have g3 : (n == -1) = false := by simp; omega
    clear hn
    go_wp2_with fail
    obtain ⟨w4, hw4⟩ : ∃ w4, w3.setCell ⟨w2.heap.size, 5, none⟩ (.int .i64 n) = w4 := ⟨_, rfl⟩
    have oc : w4.ownsRow w1.heap.size 40 4 cv (madeP (l.take 20)).code.length (codeV (madeP (l.take 20)).code) := by rw [← hw4]; exact other_row HA3.out.hc HBOX.out (by decide) _ _
    have hT : TypesAt w4 (.slice (some ⟨bt, 0, none⟩) 1 1) oneFT := types_one (by rw [← hw4]; exact other_block HA3.out.ht HBOX.out (by decide) _ _)
    have k4 : Below w1.heap.size w3 w4 := by rw [← hw4]; exact (Below.refl _ _).setCell (p := ⟨w2.heap.size, _, none⟩) HW12.out _
    have k5 : Below w.heap.size w w4 := B3.out.trans (k4.mono C1.out.size)
    have hmod := parts_mod (st := n) (ix := 0) (i0 := 5) (i1 := -5) (mx := 2) hT (by rw [← hw4]; exact other_block HA3.out.hf HBOX.out (by decide) _ _) (by rw [← hw4]; exact other_block HA3.out.hm HBOX.out (by decide) _ _) (by rw [← hw4]; exact other_block HA3.out.hg HBOX.out (by decide) _ _) (by rw [← hw4]; exact other_block HA3.out.he HBOX.out (by decide) _ _) (by rw [← hw4]; exact other_block HA3.out.hd HBOX.out (by decide) _ _) oc HA3.out.wf HA3.out.room
    rw [hw4]
    clear hw4
    refine (right_call (HE.out.later k5) hmod HST.out HOK.out (r := false) (by rw [show (n == -1) = false by have := HN.out; simp; omega, (wordF (n := n) (by have := HN.out; omega))]; kernel_rfl)).mono ?_
    rintro e w5 ⟨rfl, c5⟩
    have K5 := Lib.hid (k5.trans (c5.mono k5.size))
    clear c5 k5 k4 hT oc hmod
    go_wp2_with fail
    go_ret
    exact ⟨rfl, K5.out⟩
  · have HN := Lib.hid hn
    have g1 : decide (0 ≤ n) = false := decide_eq_false (by omega)
    have g2 : decide (n < 4294967296) = true := decide_eq_true (by omega)
    have g3 : (n == -1) = false := by simp; omega
    clear hn
    go_wp2_with fail
    obtain ⟨w4, hw4⟩ : ∃ w4, w3.setCell ⟨w2.heap.size, 5, none⟩ (.int .i64 n) = w4 := ⟨_, rfl⟩
    have oc : w4.ownsRow w1.heap.size 40 4 cv (madeP (l.take 20)).code.length (codeV (madeP (l.take 20)).code) := by rw [← hw4]; exact other_row HA3.out.hc HBOX.out (by decide) _ _
    have hT : TypesAt w4 (.slice (some ⟨bt, 0, none⟩) 1 1) oneFT := types_one (by rw [← hw4]; exact other_block HA3.out.ht HBOX.out (by decide) _ _)
    have k4 : Below w1.heap.size w3 w4 := by rw [← hw4]; exact (Below.refl _ _).setCell (p := ⟨w2.heap.size, _, none⟩) HW12.out _
    have k5 : Below w.heap.size w w4 := B3.out.trans (k4.mono C1.out.size)
    have hmod := parts_mod (st := n) (ix := 0) (i0 := 5) (i1 := -5) (mx := 2) hT (by rw [← hw4]; exact other_block HA3.out.hf HBOX.out (by decide) _ _) (by rw [← hw4]; exact other_block HA3.out.hm HBOX.out (by decide) _ _) (by rw [← hw4]; exact other_block HA3.out.hg HBOX.out (by decide) _ _) (by rw [← hw4]; exact other_block HA3.out.he HBOX.out (by decide) _ _) (by rw [← hw4]; exact other_block HA3.out.hd HBOX.out (by decide) _ _) oc HA3.out.wf HA3.out.room
    rw [hw4]
    clear hw4
    refine (right_call (HE.out.later k5) hmod HST.out HOK.out (r := false) (by rw [show (n == -1) = false by have := HN.out; simp; omega, (wordF (n := n) (by have := HN.out; omega))]; kernel_rfl)).mono ?_
    rintro e w5 ⟨rfl, c5⟩
    have K5 := Lib.hid (k5.trans (c5.mono k5.size))
    clear c5 k5 k4 hT oc hmod
    go_wp2_with fail
    go_ret
    exact ⟨rfl, K5.out⟩
  · have HN := Lib.hid hn
    have g1 : decide (0 ≤ n) = false := decide_eq_false (by omega)
    have g2 : decide (n < 4294967296) = true := decide_eq_true (by omega)
    have g3 : (n == -1) = true := by simp; omega
    clear hn
    go_wp2_with fail
    obtain ⟨w4, hw4⟩ : ∃ w4, w3.setCell ⟨w2.heap.size, 5, none⟩ (.int .i64 n) = w4 := ⟨_, rfl⟩
    have oc : w4.ownsRow w1.heap.size 40 4 cv (madeP (l.take 20)).code.length (codeV (madeP (l.take 20)).code) := by rw [← hw4]; exact other_row HA3.out.hc HBOX.out (by decide) _ _
    have hT : TypesAt w4 (.slice (some ⟨bt, 0, none⟩) 1 1) oneFT := types_one (by rw [← hw4]; exact other_block HA3.out.ht HBOX.out (by decide) _ _)
    have k4 : Below w1.heap.size w3 w4 := by rw [← hw4]; exact (Below.refl _ _).setCell (p := ⟨w2.heap.size, _, none⟩) HW12.out _
    have k5 : Below w.heap.size w w4 := B3.out.trans (k4.mono C1.out.size)
    have hmod := parts_mod (st := n) (ix := 0) (i0 := 5) (i1 := -5) (mx := 2) hT (by rw [← hw4]; exact other_block HA3.out.hf HBOX.out (by decide) _ _) (by rw [← hw4]; exact other_block HA3.out.hm HBOX.out (by decide) _ _) (by rw [← hw4]; exact other_block HA3.out.hg HBOX.out (by decide) _ _) (by rw [← hw4]; exact other_block HA3.out.he HBOX.out (by decide) _ _) (by rw [← hw4]; exact other_block HA3.out.hd HBOX.out (by decide) _ _) oc HA3.out.wf HA3.out.room
    rw [hw4]
    clear hw4
    refine (right_call (HE.out.later k5) hmod HST.out HOK.out (r := true) (by rw [show (n == -1) = true by have := HN.out; simp; omega, Bool.true_or]; kernel_rfl)).mono ?_
    rintro e w5 ⟨rfl, c5⟩
    have K5 := Lib.hid (k5.trans (c5.mono k5.size))
    clear c5 k5 k4 hT oc hmod
    go_wp2_with fail
    go_ret
    exact ⟨rfl, K5.out⟩
  · have HN := Lib.hid hn
    have g1 : decide (0 ≤ n) = true := decide_eq_true (by omega)
    have g2 : decide (n < 4294967296) = true := decide_eq_true (by omega)
    have g3 : (n == -1) = false := by simp; omega
    clear hn
    go_wp2_with fail
    obtain ⟨w4, hw4⟩ : ∃ w4, w3.setCell ⟨w2.heap.size, 5, none⟩ (.int .i64 n) = w4 := ⟨_, rfl⟩
    have oc : w4.ownsRow w1.heap.size 40 4 cv (madeP (l.take 20)).code.length (codeV (madeP (l.take 20)).code) := by rw [← hw4]; exact other_row HA3.out.hc HBOX.out (by decide) _ _
    have hT : TypesAt w4 (.slice (some ⟨bt, 0, none⟩) 1 1) oneFT := types_one (by rw [← hw4]; exact other_block HA3.out.ht HBOX.out (by decide) _ _)
    have k4 : Below w1.heap.size w3 w4 := by rw [← hw4]; exact (Below.refl _ _).setCell (p := ⟨w2.heap.size, _, none⟩) HW12.out _
    have k5 : Below w.heap.size w w4 := B3.out.trans (k4.mono C1.out.size)
    have hmod := parts_mod (st := n) (ix := 0) (i0 := 5) (i1 := -5) (mx := 2) hT (by rw [← hw4]; exact other_block HA3.out.hf HBOX.out (by decide) _ _) (by rw [← hw4]; exact other_block HA3.out.hm HBOX.out (by decide) _ _) (by rw [← hw4]; exact other_block HA3.out.hg HBOX.out (by decide) _ _) (by rw [← hw4]; exact other_block HA3.out.he HBOX.out (by decide) _ _) (by rw [← hw4]; exact other_block HA3.out.hd HBOX.out (by decide) _ _) oc HA3.out.wf HA3.out.room
    rw [hw4]
    clear hw4
    refine (right_call (HE.out.later k5) hmod HST.out HOK.out (r := true) (by rw [show (n == -1) = false by have := HN.out; simp; omega, (wordT (n := n) (by have := HN.out; omega) (by have := HN.out; omega))]; kernel_rfl)).mono ?_
    rintro e w5 ⟨rfl, c5⟩
    have K5 := Lib.hid (k5.trans (c5.mono k5.size))
    clear c5 k5 k4 hT oc hmod
    go_wp2_with fail
    go_ret
    exact ⟨rfl, K5.out⟩
  · have HN := Lib.hid hn
    have g1 : decide (0 ≤ n) = true := decide_eq_true (by omega)
    have g2 : decide (n < 4294967296) = true := decide_eq_true (by omega)
    have g3 : (n == -1) = false := by simp; omega
    clear hn
    go_wp2_with fail
    obtain ⟨w4, hw4⟩ : ∃ w4, w3.setCell ⟨w2.heap.size, 5, none⟩ (.int .i64 n) = w4 := ⟨_, rfl⟩
    have oc : w4.ownsRow w1.heap.size 40 4 cv (madeP (l.take 20)).code.length (codeV (madeP (l.take 20)).code) := by rw [← hw4]; exact other_row HA3.out.hc HBOX.out (by decide) _ _
    have hT : TypesAt w4 (.slice (some ⟨bt, 0, none⟩) 1 1) oneFT := types_one (by rw [← hw4]; exact other_block HA3.out.ht HBOX.out (by decide) _ _)
    have k4 : Below w1.heap.size w3 w4 := by rw [← hw4]; exact (Below.refl _ _).setCell (p := ⟨w2.heap.size, _, none⟩) HW12.out _
    have k5 : Below w.heap.size w w4 := B3.out.trans (k4.mono C1.out.size)
    have hmod := parts_mod (st := n) (ix := 0) (i0 := 5) (i1 := -5) (mx := 2) hT (by rw [← hw4]; exact other_block HA3.out.hf HBOX.out (by decide) _ _) (by rw [← hw4]; exact other_block HA3.out.hm HBOX.out (by decide) _ _) (by rw [← hw4]; exact other_block HA3.out.hg HBOX.out (by decide) _ _) (by rw [← hw4]; exact other_block HA3.out.he HBOX.out (by decide) _ _) (by rw [← hw4]; exact other_block HA3.out.hd HBOX.out (by decide) _ _) oc HA3.out.wf HA3.out.room
    rw [hw4]
    clear hw4
    refine (right_call (HE.out.later k5) hmod HST.out HOK.out (r := true) (by rw [show (n == -1) = false by have := HN.out; simp; omega, (wordT (n := n) (by have := HN.out; omega) (by have := HN.out; omega))]; kernel_rfl)).mono ?_
    rintro e w5 ⟨rfl, c5⟩
    have K5 := Lib.hid (k5.trans (c5.mono k5.size))
    clear c5 k5 k4 hT oc hmod
    go_wp2_with fail
    go_ret
    exact ⟨rfl, K5.out⟩
  · have HN := Lib.hid hn
    have g1 : decide (0 ≤ n) = true := decide_eq_true (by omega)
    have g2 : decide (n < 4294967296) = false := decide_eq_false (by omega)
    have g3 : (n == -1) = false := by simp; omega
    clear hn
    go_wp2_with fail
    obtain ⟨w4, hw4⟩ : ∃ w4, w3.setCell ⟨w2.heap.size, 5, none⟩ (.int .i64 n) = w4 := ⟨_, rfl⟩
    have oc : w4.ownsRow w1.heap.size 40 4 cv (madeP (l.take 20)).code.length (codeV (madeP (l.take 20)).code) := by rw [← hw4]; exact other_row HA3.out.hc HBOX.out (by decide) _ _
    have hT : TypesAt w4 (.slice (some ⟨bt, 0, none⟩) 1 1) oneFT := types_one (by rw [← hw4]; exact other_block HA3.out.ht HBOX.out (by decide) _ _)
    have k4 : Below w1.heap.size w3 w4 := by rw [← hw4]; exact (Below.refl _ _).setCell (p := ⟨w2.heap.size, _, none⟩) HW12.out _
    have k5 : Below w.heap.size w w4 := B3.out.trans (k4.mono C1.out.size)
    have hmod := parts_mod (st := n) (ix := 0) (i0 := 5) (i1 := -5) (mx := 2) hT (by rw [← hw4]; exact other_block HA3.out.hf HBOX.out (by decide) _ _) (by rw [← hw4]; exact other_block HA3.out.hm HBOX.out (by decide) _ _) (by rw [← hw4]; exact other_block HA3.out.hg HBOX.out (by decide) _ _) (by rw [← hw4]; exact other_block HA3.out.he HBOX.out (by decide) _ _) (by rw [← hw4]; exact other_block HA3.out.hd HBOX.out (by decide) _ _) oc HA3.out.wf HA3.out.room
    rw [hw4]
    clear hw4
    refine (right_call (HE.out.later k5) hmod HST.out HOK.out (r := false) (by rw [show (n == -1) = false by have := HN.out; simp; omega, (wordF (n := n) (by have := HN.out; omega))]; kernel_rfl)).mono ?_
    rintro e w5 ⟨rfl, c5⟩
    have K5 := Lib.hid (k5.trans (c5.mono k5.size))
    clear c5 k5 k4 hT oc hmod
    go_wp2_with fail
    go_ret
    exact ⟨rfl, K5.out⟩
set_option maxRecDepth 100000 in
set_option maxHeartbeats 8000000 in
theorem limits_1 (l : List Step) (which : Nat) (n : Int) (w : World) (hE : MEnv w) (hP : PowEnv w) (hw8 : which < 256) (hn0 : -9223372036854775808 ≤ n) (hn1 : n ≤ 9223372036854775807) (la : Option Addr) (lc : Nat) (hcap : l.length ≤ lc) (hv : StepsAt w (.slice la l.length lc) l) (hk : which % 6 = 1) :
    Calls Tryz.prog 9 #[.slice la l.length lc, .int .u8 (which : Int), .int .i64 n] w fun e w' => e = .returned (.bool true) ∧ Below w.heap.size w w' := by
  have hv2 := hv
  obtain ⟨_, _, _, hle, _⟩ := hv2.form
  have HX := Lib.hid (examples04 w hE hP)
  have HV := Lib.hid hv
  have HE := Lib.hid hE
  have HK := Lib.hid hk
  clear hE hP hv hv2 hk
  obtain ⟨M, hM⟩ : ∃ M, min l.length 20 = M := ⟨_, rfl⟩
  have hM1 : M ≤ l.length := by omega
  have hM2 : M ≤ lc := by omega
  have hM3 : min (l.length : Int) 20 = (M : Int) := by omega
  have HMM := Lib.hid hM
  clear hM
  have t0 : ((which : Int) % 6 == 0) = false := by have := HK.out; simp; omega
  have t1 : ((which : Int) % 6 == 1) = true := by have := HK.out; simp; omega
  go_enter Tryz.func9, Tryz.ntmps9
  go_wp2_with fail
  refine HX.out.mono ?_
  rintro e w1 ⟨rfl, c1⟩
  have C1 := Lib.hid c1
  clear c1
  go_wp2_with fail
  refine (made_any _ (l.take 20) w1 (ListAt.take (HV.out.later lasts_step C1.out) 20 M (by rw [List.length_take, ← HMM.out]; omega)) (made_opsWf _)).mono ?_
  rintro e w2 ⟨⟨bt, bf, bm, bg, be, bd, cv, rfl, hA⟩, c2⟩
  obtain ⟨w3, hw3⟩ : ∃ w3, w2.alloc (.cells #[slV bt 1, slV bf 1, slV bm 1, slV bg 2, slV be 1, .int .i64 (-1), slV bd 1] 29) = w3 := ⟨_, rfl⟩
  have k3 : Below w2.heap.size w2 w3 := by rw [← hw3]; exact (Below.refl _ _).alloc (Nat.le_refl _) _
  have hA3 := hA.later k3
  have hbox : w3.heap[w2.heap.size]? = some (.cells #[slV bt 1, slV bf 1, slV bm 1, slV bg 2, slV be 1, .int .i64 (-1), slV bd 1] 29 (0, 0)) := by rw [← hw3]; exact heap_alloc_new _ _
  have HS12 := Lib.hid c2.size
  have B3 := Lib.hid (C1.out.trans ((c2.trans (k3.mono c2.size)).mono C1.out.size))
  have HA3 := Lib.hid hA3
  have HBOX := Lib.hid hbox
  have HST := Lib.hid (made_struct (l.take 20))
  have HOK := Lib.hid (made_oks (l.take 20))
  unfold slV at hw3 hbox
  unfold madeV modV slV
  clear hA c2 k3 hA3
  go_upto_region 5 with fail
  clear hw3
  obtain ⟨q0, q1, q2, q3, q4, q5, q6⟩ := box_cells hbox
  have y0 : w3.frozen? ⟨w2.heap.size, 0, none⟩ = false := frozen_of_row _ _ _ _ _ hbox
  have y5 : w3.frozen? ⟨w2.heap.size, 5, none⟩ = false := frozen_of_row _ _ _ _ _ hbox
  have hlt2 : w2.heap.size < w3.heap.size := World.block_lt_of_cell? _ _ q0
  clear hbox
  have p1 : w3.cell? ⟨be, 2, none⟩ = some (.int .i64 0) := cell_of_row _ _ _ _ _ _ HA3.out.he
  have p2 : w3.frozen? ⟨be, 2, none⟩ = false := frozen_of_row _ _ _ _ _ HA3.out.he
  have p3 : w2.heap.size ≠ be := fun e => by have h1 := HBOX.out; have h2 := HA3.out.he; rw [e, h2] at h1; simp at h1
  have p4 : be ≠ w2.heap.size := fun e => p3 e.symm
  have HW12 := Lib.hid (show w1.heap.size ≤ w2.heap.size from HS12.out)
  have HW2 := Lib.hid (Nat.le_trans C1.out.size HW12.out)
  rcases (show n < -2147483648 ∨ (-2147483648 ≤ n ∧ n < -1) ∨ n = -1 ∨ (0 ≤ n ∧ n < 2147483648) ∨ (2147483648 ≤ n ∧ n < 4294967296) ∨ 4294967296 ≤ n by omega) with hn | hn | hn | hn | hn | hn
  · have HN := Lib.hid hn
    have g1 : decide (0 ≤ n) = false := decide_eq_false (by omega)
    have g2 : decide (n < 4294967296) = true := decide_eq_true (by omega)
    clear hn
    go_wp2_with fail
    obtain ⟨w4, hw4⟩ : ∃ w4, w3.setCell ⟨be, 2, none⟩ (.int .i64 n) = w4 := ⟨_, rfl⟩
    have oc : w4.ownsRow w1.heap.size 40 4 cv (madeP (l.take 20)).code.length (codeV (madeP (l.take 20)).code) := by rw [← hw4]; exact other_row HA3.out.hc HA3.out.he (by decide) _ _
    have hT : TypesAt w4 (.slice (some ⟨bt, 0, none⟩) 1 1) oneFT := types_one (by rw [← hw4]; exact other_block HA3.out.ht HA3.out.he (by decide) _ _)
    have k4 : Below w1.heap.size w3 w4 := by rw [← hw4]; exact (Below.refl _ _).setCell (p := ⟨be, _, none⟩) HA3.out.low.2.2.2.2.1 _
    have k5 : Below w.heap.size w w4 := B3.out.trans (k4.mono C1.out.size)
    have hmod := parts_mod (st := -1) (ix := n) (i0 := 5) (i1 := -5) (mx := 2) hT (by rw [← hw4]; exact other_block HA3.out.hf HA3.out.he (by decide) _ _) (by rw [← hw4]; exact other_block HA3.out.hm HA3.out.he (by decide) _ _) (by rw [← hw4]; exact other_block HA3.out.hg HA3.out.he (by decide) _ _) (by rw [← hw4]; exact box_set' HA3.out.he _ _ rfl) (by rw [← hw4]; exact other_block HA3.out.hd HA3.out.he (by decide) _ _) oc HA3.out.wf HA3.out.room
    rw [hw4]
    clear hw4
    refine (right_call (HE.out.later k5) hmod HST.out HOK.out (r := false) (by rw [(wordF (n := n) (by have := HN.out; omega))]; kernel_rfl)).mono ?_
    rintro e w5 ⟨rfl, c5⟩
    have K5 := Lib.hid (k5.trans (c5.mono k5.size))
    clear c5 k5 k4 hT oc hmod
    go_wp2_with fail
    go_ret
    exact ⟨rfl, K5.out⟩
  · have HN := Lib.hid hn
    have g1 : decide (0 ≤ n) = false := decide_eq_false (by omega)
    have g2 : decide (n < 4294967296) = true := decide_eq_true (by omega)
    clear hn
    go_wp2_with fail
    obtain ⟨w4, hw4⟩ : ∃ w4, w3.setCell ⟨be, 2, none⟩ (.int .i64 n) = w4 := ⟨_, rfl⟩
    have oc : w4.ownsRow w1.heap.size 40 4 cv (madeP (l.take 20)).code.length (codeV (madeP (l.take 20)).code) := by rw [← hw4]; exact other_row HA3.out.hc HA3.out.he (by decide) _ _
    have hT : TypesAt w4 (.slice (some ⟨bt, 0, none⟩) 1 1) oneFT := types_one (by rw [← hw4]; exact other_block HA3.out.ht HA3.out.he (by decide) _ _)
    have k4 : Below w1.heap.size w3 w4 := by rw [← hw4]; exact (Below.refl _ _).setCell (p := ⟨be, _, none⟩) HA3.out.low.2.2.2.2.1 _
    have k5 : Below w.heap.size w w4 := B3.out.trans (k4.mono C1.out.size)
    have hmod := parts_mod (st := -1) (ix := n) (i0 := 5) (i1 := -5) (mx := 2) hT (by rw [← hw4]; exact other_block HA3.out.hf HA3.out.he (by decide) _ _) (by rw [← hw4]; exact other_block HA3.out.hm HA3.out.he (by decide) _ _) (by rw [← hw4]; exact other_block HA3.out.hg HA3.out.he (by decide) _ _) (by rw [← hw4]; exact box_set' HA3.out.he _ _ rfl) (by rw [← hw4]; exact other_block HA3.out.hd HA3.out.he (by decide) _ _) oc HA3.out.wf HA3.out.room
    rw [hw4]
    clear hw4
    refine (right_call (HE.out.later k5) hmod HST.out HOK.out (r := false) (by rw [(wordF (n := n) (by have := HN.out; omega))]; kernel_rfl)).mono ?_
    rintro e w5 ⟨rfl, c5⟩
    have K5 := Lib.hid (k5.trans (c5.mono k5.size))
    clear c5 k5 k4 hT oc hmod
    go_wp2_with fail
    go_ret
    exact ⟨rfl, K5.out⟩
  · have HN := Lib.hid hn
    have g1 : decide (0 ≤ n) = false := decide_eq_false (by omega)
    have g2 : decide (n < 4294967296) = true := decide_eq_true (by omega)
    clear hn
    go_wp2_with fail
    obtain ⟨w4, hw4⟩ : ∃ w4, w3.setCell ⟨be, 2, none⟩ (.int .i64 n) = w4 := ⟨_, rfl⟩
    have oc : w4.ownsRow w1.heap.size 40 4 cv (madeP (l.take 20)).code.length (codeV (madeP (l.take 20)).code) := by rw [← hw4]; exact other_row HA3.out.hc HA3.out.he (by decide) _ _
    have hT : TypesAt w4 (.slice (some ⟨bt, 0, none⟩) 1 1) oneFT := types_one (by rw [← hw4]; exact other_block HA3.out.ht HA3.out.he (by decide) _ _)
    have k4 : Below w1.heap.size w3 w4 := by rw [← hw4]; exact (Below.refl _ _).setCell (p := ⟨be, _, none⟩) HA3.out.low.2.2.2.2.1 _
    have k5 : Below w.heap.size w w4 := B3.out.trans (k4.mono C1.out.size)
    have hmod := parts_mod (st := -1) (ix := n) (i0 := 5) (i1 := -5) (mx := 2) hT (by rw [← hw4]; exact other_block HA3.out.hf HA3.out.he (by decide) _ _) (by rw [← hw4]; exact other_block HA3.out.hm HA3.out.he (by decide) _ _) (by rw [← hw4]; exact other_block HA3.out.hg HA3.out.he (by decide) _ _) (by rw [← hw4]; exact box_set' HA3.out.he _ _ rfl) (by rw [← hw4]; exact other_block HA3.out.hd HA3.out.he (by decide) _ _) oc HA3.out.wf HA3.out.room
    rw [hw4]
    clear hw4
    refine (right_call (HE.out.later k5) hmod HST.out HOK.out (r := false) (by rw [(wordF (n := n) (by have := HN.out; omega))]; kernel_rfl)).mono ?_
    rintro e w5 ⟨rfl, c5⟩
    have K5 := Lib.hid (k5.trans (c5.mono k5.size))
    clear c5 k5 k4 hT oc hmod
    go_wp2_with fail
    go_ret
    exact ⟨rfl, K5.out⟩
  · have HN := Lib.hid hn
    have g1 : decide (0 ≤ n) = true := decide_eq_true (by omega)
    have g2 : decide (n < 4294967296) = true := decide_eq_true (by omega)
    clear hn
    go_wp2_with fail
    obtain ⟨w4, hw4⟩ : ∃ w4, w3.setCell ⟨be, 2, none⟩ (.int .i64 n) = w4 := ⟨_, rfl⟩
    have oc : w4.ownsRow w1.heap.size 40 4 cv (madeP (l.take 20)).code.length (codeV (madeP (l.take 20)).code) := by rw [← hw4]; exact other_row HA3.out.hc HA3.out.he (by decide) _ _
    have hT : TypesAt w4 (.slice (some ⟨bt, 0, none⟩) 1 1) oneFT := types_one (by rw [← hw4]; exact other_block HA3.out.ht HA3.out.he (by decide) _ _)
    have k4 : Below w1.heap.size w3 w4 := by rw [← hw4]; exact (Below.refl _ _).setCell (p := ⟨be, _, none⟩) HA3.out.low.2.2.2.2.1 _
    have k5 : Below w.heap.size w w4 := B3.out.trans (k4.mono C1.out.size)
    have hmod := parts_mod (st := -1) (ix := n) (i0 := 5) (i1 := -5) (mx := 2) hT (by rw [← hw4]; exact other_block HA3.out.hf HA3.out.he (by decide) _ _) (by rw [← hw4]; exact other_block HA3.out.hm HA3.out.he (by decide) _ _) (by rw [← hw4]; exact other_block HA3.out.hg HA3.out.he (by decide) _ _) (by rw [← hw4]; exact box_set' HA3.out.he _ _ rfl) (by rw [← hw4]; exact other_block HA3.out.hd HA3.out.he (by decide) _ _) oc HA3.out.wf HA3.out.room
    rw [hw4]
    clear hw4
    refine (right_call (HE.out.later k5) hmod HST.out HOK.out (r := true) (by rw [(wordT (n := n) (by have := HN.out; omega) (by have := HN.out; omega))]; kernel_rfl)).mono ?_
    rintro e w5 ⟨rfl, c5⟩
    have K5 := Lib.hid (k5.trans (c5.mono k5.size))
    clear c5 k5 k4 hT oc hmod
    go_wp2_with fail
    go_ret
    exact ⟨rfl, K5.out⟩
  · have HN := Lib.hid hn
    have g1 : decide (0 ≤ n) = true := decide_eq_true (by omega)
    have g2 : decide (n < 4294967296) = true := decide_eq_true (by omega)
    clear hn
    go_wp2_with fail
    obtain ⟨w4, hw4⟩ : ∃ w4, w3.setCell ⟨be, 2, none⟩ (.int .i64 n) = w4 := ⟨_, rfl⟩
    have oc : w4.ownsRow w1.heap.size 40 4 cv (madeP (l.take 20)).code.length (codeV (madeP (l.take 20)).code) := by rw [← hw4]; exact other_row HA3.out.hc HA3.out.he (by decide) _ _
    have hT : TypesAt w4 (.slice (some ⟨bt, 0, none⟩) 1 1) oneFT := types_one (by rw [← hw4]; exact other_block HA3.out.ht HA3.out.he (by decide) _ _)
    have k4 : Below w1.heap.size w3 w4 := by rw [← hw4]; exact (Below.refl _ _).setCell (p := ⟨be, _, none⟩) HA3.out.low.2.2.2.2.1 _
    have k5 : Below w.heap.size w w4 := B3.out.trans (k4.mono C1.out.size)
    have hmod := parts_mod (st := -1) (ix := n) (i0 := 5) (i1 := -5) (mx := 2) hT (by rw [← hw4]; exact other_block HA3.out.hf HA3.out.he (by decide) _ _) (by rw [← hw4]; exact other_block HA3.out.hm HA3.out.he (by decide) _ _) (by rw [← hw4]; exact other_block HA3.out.hg HA3.out.he (by decide) _ _) (by rw [← hw4]; exact box_set' HA3.out.he _ _ rfl) (by rw [← hw4]; exact other_block HA3.out.hd HA3.out.he (by decide) _ _) oc HA3.out.wf HA3.out.room
    rw [hw4]
    clear hw4
    refine (right_call (HE.out.later k5) hmod HST.out HOK.out (r := true) (by rw [(wordT (n := n) (by have := HN.out; omega) (by have := HN.out; omega))]; kernel_rfl)).mono ?_
    rintro e w5 ⟨rfl, c5⟩
    have K5 := Lib.hid (k5.trans (c5.mono k5.size))
    clear c5 k5 k4 hT oc hmod
    go_wp2_with fail
    go_ret
    exact ⟨rfl, K5.out⟩
  · have HN := Lib.hid hn
    have g1 : decide (0 ≤ n) = true := decide_eq_true (by omega)
    have g2 : decide (n < 4294967296) = false := decide_eq_false (by omega)
    clear hn
    go_wp2_with fail
    obtain ⟨w4, hw4⟩ : ∃ w4, w3.setCell ⟨be, 2, none⟩ (.int .i64 n) = w4 := ⟨_, rfl⟩
    have oc : w4.ownsRow w1.heap.size 40 4 cv (madeP (l.take 20)).code.length (codeV (madeP (l.take 20)).code) := by rw [← hw4]; exact other_row HA3.out.hc HA3.out.he (by decide) _ _
    have hT : TypesAt w4 (.slice (some ⟨bt, 0, none⟩) 1 1) oneFT := types_one (by rw [← hw4]; exact other_block HA3.out.ht HA3.out.he (by decide) _ _)
    have k4 : Below w1.heap.size w3 w4 := by rw [← hw4]; exact (Below.refl _ _).setCell (p := ⟨be, _, none⟩) HA3.out.low.2.2.2.2.1 _
    have k5 : Below w.heap.size w w4 := B3.out.trans (k4.mono C1.out.size)
    have hmod := parts_mod (st := -1) (ix := n) (i0 := 5) (i1 := -5) (mx := 2) hT (by rw [← hw4]; exact other_block HA3.out.hf HA3.out.he (by decide) _ _) (by rw [← hw4]; exact other_block HA3.out.hm HA3.out.he (by decide) _ _) (by rw [← hw4]; exact other_block HA3.out.hg HA3.out.he (by decide) _ _) (by rw [← hw4]; exact box_set' HA3.out.he _ _ rfl) (by rw [← hw4]; exact other_block HA3.out.hd HA3.out.he (by decide) _ _) oc HA3.out.wf HA3.out.room
    rw [hw4]
    clear hw4
    refine (right_call (HE.out.later k5) hmod HST.out HOK.out (r := false) (by rw [(wordF (n := n) (by have := HN.out; omega))]; kernel_rfl)).mono ?_
    rintro e w5 ⟨rfl, c5⟩
    have K5 := Lib.hid (k5.trans (c5.mono k5.size))
    clear c5 k5 k4 hT oc hmod
    go_wp2_with fail
    go_ret
    exact ⟨rfl, K5.out⟩
set_option maxRecDepth 100000 in
set_option maxHeartbeats 8000000 in
theorem limits_2 (l : List Step) (which : Nat) (n : Int) (w : World) (hE : MEnv w) (hP : PowEnv w) (hw8 : which < 256) (hn0 : -9223372036854775808 ≤ n) (hn1 : n ≤ 9223372036854775807) (la : Option Addr) (lc : Nat) (hcap : l.length ≤ lc) (hv : StepsAt w (.slice la l.length lc) l) (hk : which % 6 = 2) :
    Calls Tryz.prog 9 #[.slice la l.length lc, .int .u8 (which : Int), .int .i64 n] w fun e w' => e = .returned (.bool true) ∧ Below w.heap.size w w' := by
  have hv2 := hv
  obtain ⟨_, _, _, hle, _⟩ := hv2.form
  have HX := Lib.hid (examples04 w hE hP)
  have HV := Lib.hid hv
  have HE := Lib.hid hE
  have HK := Lib.hid hk
  clear hE hP hv hv2 hk
  obtain ⟨M, hM⟩ : ∃ M, min l.length 20 = M := ⟨_, rfl⟩
  have hM1 : M ≤ l.length := by omega
  have hM2 : M ≤ lc := by omega
  have hM3 : min (l.length : Int) 20 = (M : Int) := by omega
  have HMM := Lib.hid hM
  clear hM
  have t0 : ((which : Int) % 6 == 0) = false := by have := HK.out; simp; omega
  have t1 : ((which : Int) % 6 == 1) = false := by have := HK.out; simp; omega
  have t2 : ((which : Int) % 6 == 2) = true := by have := HK.out; simp; omega
  go_enter Tryz.func9, Tryz.ntmps9
  go_wp2_with fail
  refine HX.out.mono ?_
  rintro e w1 ⟨rfl, c1⟩
  have C1 := Lib.hid c1
  clear c1
  go_wp2_with fail
  refine (made_any _ (l.take 20) w1 (ListAt.take (HV.out.later lasts_step C1.out) 20 M (by rw [List.length_take, ← HMM.out]; omega)) (made_opsWf _)).mono ?_
  rintro e w2 ⟨⟨bt, bf, bm, bg, be, bd, cv, rfl, hA⟩, c2⟩
  obtain ⟨w3, hw3⟩ : ∃ w3, w2.alloc (.cells #[slV bt 1, slV bf 1, slV bm 1, slV bg 2, slV be 1, .int .i64 (-1), slV bd 1] 29) = w3 := ⟨_, rfl⟩
  have k3 : Below w2.heap.size w2 w3 := by rw [← hw3]; exact (Below.refl _ _).alloc (Nat.le_refl _) _
  have hA3 := hA.later k3
  have hbox : w3.heap[w2.heap.size]? = some (.cells #[slV bt 1, slV bf 1, slV bm 1, slV bg 2, slV be 1, .int .i64 (-1), slV bd 1] 29 (0, 0)) := by rw [← hw3]; exact heap_alloc_new _ _
  have HS12 := Lib.hid c2.size
  have B3 := Lib.hid (C1.out.trans ((c2.trans (k3.mono c2.size)).mono C1.out.size))
  have HA3 := Lib.hid hA3
  have HBOX := Lib.hid hbox
  have HST := Lib.hid (made_struct (l.take 20))
  have HOK := Lib.hid (made_oks (l.take 20))
  unfold slV at hw3 hbox
  unfold madeV modV slV
  clear hA c2 k3 hA3
  go_upto_region 5 with fail
  clear hw3
  obtain ⟨q0, q1, q2, q3, q4, q5, q6⟩ := box_cells hbox
  have y0 : w3.frozen? ⟨w2.heap.size, 0, none⟩ = false := frozen_of_row _ _ _ _ _ hbox
  have y5 : w3.frozen? ⟨w2.heap.size, 5, none⟩ = false := frozen_of_row _ _ _ _ _ hbox
  have hlt2 : w2.heap.size < w3.heap.size := World.block_lt_of_cell? _ _ q0
  clear hbox
  have p1 : w3.cell? ⟨bg, 2, none⟩ = some (.int .i64 5) := cell_of_row _ _ _ _ _ _ HA3.out.hg
  have p2 : w3.frozen? ⟨bg, 2, none⟩ = false := frozen_of_row _ _ _ _ _ HA3.out.hg
  have p3 : w2.heap.size ≠ bg := fun e => by have h1 := HBOX.out; have h2 := HA3.out.hg; rw [e, h2] at h1; simp at h1
  have p4 : bg ≠ w2.heap.size := fun e => p3 e.symm
  have HW12 := Lib.hid (show w1.heap.size ≤ w2.heap.size from HS12.out)
  have HW2 := Lib.hid (Nat.le_trans C1.out.size HW12.out)
  rcases (show n < -2147483648 ∨ (-2147483648 ≤ n ∧ n < -1) ∨ n = -1 ∨ (0 ≤ n ∧ n < 2147483648) ∨ (2147483648 ≤ n ∧ n < 4294967296) ∨ 4294967296 ≤ n by omega) with hn | hn | hn | hn | hn | hn
  · have HN := Lib.hid hn
    have g1 : decide (0 ≤ n) = false := decide_eq_false (by omega)
    have g2 : decide (n < 4294967296) = true := decide_eq_true (by omega)
    have g3 : decide (-2147483648 ≤ n) = false := decide_eq_false (by omega)
    have g4 : decide (n < 2147483648) = true := decide_eq_true (by omega)
    clear hn
    go_wp2_with fail
    obtain ⟨w4, hw4⟩ : ∃ w4, w3.setCell ⟨bg, 2, none⟩ (.int .i64 n) = w4 := ⟨_, rfl⟩
    have oc : w4.ownsRow w1.heap.size 40 4 cv (madeP (l.take 20)).code.length (codeV (madeP (l.take 20)).code) := by rw [← hw4]; exact other_row HA3.out.hc HA3.out.hg (by decide) _ _
    have hT : TypesAt w4 (.slice (some ⟨bt, 0, none⟩) 1 1) oneFT := types_one (by rw [← hw4]; exact other_block HA3.out.ht HA3.out.hg (by decide) _ _)
    have k4 : Below w1.heap.size w3 w4 := by rw [← hw4]; exact (Below.refl _ _).setCell (p := ⟨bg, _, none⟩) HA3.out.low.2.2.2.1 _
    have k5 : Below w.heap.size w w4 := B3.out.trans (k4.mono C1.out.size)
    have hmod := parts_mod (st := -1) (ix := 0) (i0 := n) (i1 := -5) (mx := 2) hT (by rw [← hw4]; exact other_block HA3.out.hf HA3.out.hg (by decide) _ _) (by rw [← hw4]; exact other_block HA3.out.hm HA3.out.hg (by decide) _ _) (by rw [← hw4]; exact box_set' HA3.out.hg _ _ rfl) (by rw [← hw4]; exact other_block HA3.out.he HA3.out.hg (by decide) _ _) (by rw [← hw4]; exact other_block HA3.out.hd HA3.out.hg (by decide) _ _) oc HA3.out.wf HA3.out.room
    rw [hw4]
    clear hw4
    refine (right_call (HE.out.later k5) hmod HST.out HOK.out (r := false) (by rw [(w32F (n := n) (by have := HN.out; omega))]; kernel_rfl)).mono ?_
    rintro e w5 ⟨rfl, c5⟩
    have K5 := Lib.hid (k5.trans (c5.mono k5.size))
    clear c5 k5 k4 hT oc hmod
    go_wp2_with fail
    go_ret
    exact ⟨rfl, K5.out⟩
  · have HN := Lib.hid hn
    have g1 : decide (0 ≤ n) = false := decide_eq_false (by omega)
    have g2 : decide (n < 4294967296) = true := decide_eq_true (by omega)
    have g3 : decide (-2147483648 ≤ n) = true := decide_eq_true (by omega)
    have g4 : decide (n < 2147483648) = true := decide_eq_true (by omega)
    clear hn
    go_wp2_with fail
    obtain ⟨w4, hw4⟩ : ∃ w4, w3.setCell ⟨bg, 2, none⟩ (.int .i64 n) = w4 := ⟨_, rfl⟩
    have oc : w4.ownsRow w1.heap.size 40 4 cv (madeP (l.take 20)).code.length (codeV (madeP (l.take 20)).code) := by rw [← hw4]; exact other_row HA3.out.hc HA3.out.hg (by decide) _ _
    have hT : TypesAt w4 (.slice (some ⟨bt, 0, none⟩) 1 1) oneFT := types_one (by rw [← hw4]; exact other_block HA3.out.ht HA3.out.hg (by decide) _ _)
    have k4 : Below w1.heap.size w3 w4 := by rw [← hw4]; exact (Below.refl _ _).setCell (p := ⟨bg, _, none⟩) HA3.out.low.2.2.2.1 _
    have k5 : Below w.heap.size w w4 := B3.out.trans (k4.mono C1.out.size)
    have hmod := parts_mod (st := -1) (ix := 0) (i0 := n) (i1 := -5) (mx := 2) hT (by rw [← hw4]; exact other_block HA3.out.hf HA3.out.hg (by decide) _ _) (by rw [← hw4]; exact other_block HA3.out.hm HA3.out.hg (by decide) _ _) (by rw [← hw4]; exact box_set' HA3.out.hg _ _ rfl) (by rw [← hw4]; exact other_block HA3.out.he HA3.out.hg (by decide) _ _) (by rw [← hw4]; exact other_block HA3.out.hd HA3.out.hg (by decide) _ _) oc HA3.out.wf HA3.out.room
    rw [hw4]
    clear hw4
    refine (right_call (HE.out.later k5) hmod HST.out HOK.out (r := true) (by rw [(w32T (n := n) (by have := HN.out; omega) (by have := HN.out; omega))]; kernel_rfl)).mono ?_
    rintro e w5 ⟨rfl, c5⟩
    have K5 := Lib.hid (k5.trans (c5.mono k5.size))
    clear c5 k5 k4 hT oc hmod
    go_wp2_with fail
    go_ret
    exact ⟨rfl, K5.out⟩
  · have HN := Lib.hid hn
    have g1 : decide (0 ≤ n) = false := decide_eq_false (by omega)
    have g2 : decide (n < 4294967296) = true := decide_eq_true (by omega)
    have g3 : decide (-2147483648 ≤ n) = true := decide_eq_true (by omega)
    have g4 : decide (n < 2147483648) = true := decide_eq_true (by omega)
    clear hn
    go_wp2_with fail
    obtain ⟨w4, hw4⟩ : ∃ w4, w3.setCell ⟨bg, 2, none⟩ (.int .i64 n) = w4 := ⟨_, rfl⟩
    have oc : w4.ownsRow w1.heap.size 40 4 cv (madeP (l.take 20)).code.length (codeV (madeP (l.take 20)).code) := by rw [← hw4]; exact other_row HA3.out.hc HA3.out.hg (by decide) _ _
    have hT : TypesAt w4 (.slice (some ⟨bt, 0, none⟩) 1 1) oneFT := types_one (by rw [← hw4]; exact other_block HA3.out.ht HA3.out.hg (by decide) _ _)
    have k4 : Below w1.heap.size w3 w4 := by rw [← hw4]; exact (Below.refl _ _).setCell (p := ⟨bg, _, none⟩) HA3.out.low.2.2.2.1 _
    have k5 : Below w.heap.size w w4 := B3.out.trans (k4.mono C1.out.size)
    have hmod := parts_mod (st := -1) (ix := 0) (i0 := n) (i1 := -5) (mx := 2) hT (by rw [← hw4]; exact other_block HA3.out.hf HA3.out.hg (by decide) _ _) (by rw [← hw4]; exact other_block HA3.out.hm HA3.out.hg (by decide) _ _) (by rw [← hw4]; exact box_set' HA3.out.hg _ _ rfl) (by rw [← hw4]; exact other_block HA3.out.he HA3.out.hg (by decide) _ _) (by rw [← hw4]; exact other_block HA3.out.hd HA3.out.hg (by decide) _ _) oc HA3.out.wf HA3.out.room
    rw [hw4]
    clear hw4
    refine (right_call (HE.out.later k5) hmod HST.out HOK.out (r := true) (by rw [(w32T (n := n) (by have := HN.out; omega) (by have := HN.out; omega))]; kernel_rfl)).mono ?_
    rintro e w5 ⟨rfl, c5⟩
    have K5 := Lib.hid (k5.trans (c5.mono k5.size))
    clear c5 k5 k4 hT oc hmod
    go_wp2_with fail
    go_ret
    exact ⟨rfl, K5.out⟩
  · have HN := Lib.hid hn
    have g1 : decide (0 ≤ n) = true := decide_eq_true (by omega)
    have g2 : decide (n < 4294967296) = true := decide_eq_true (by omega)
    have g3 : decide (-2147483648 ≤ n) = true := decide_eq_true (by omega)
    have g4 : decide (n < 2147483648) = true := decide_eq_true (by omega)
    clear hn
    go_wp2_with fail
    obtain ⟨w4, hw4⟩ : ∃ w4, w3.setCell ⟨bg, 2, none⟩ (.int .i64 n) = w4 := ⟨_, rfl⟩
    have oc : w4.ownsRow w1.heap.size 40 4 cv (madeP (l.take 20)).code.length (codeV (madeP (l.take 20)).code) := by rw [← hw4]; exact other_row HA3.out.hc HA3.out.hg (by decide) _ _
    have hT : TypesAt w4 (.slice (some ⟨bt, 0, none⟩) 1 1) oneFT := types_one (by rw [← hw4]; exact other_block HA3.out.ht HA3.out.hg (by decide) _ _)
    have k4 : Below w1.heap.size w3 w4 := by rw [← hw4]; exact (Below.refl _ _).setCell (p := ⟨bg, _, none⟩) HA3.out.low.2.2.2.1 _
    have k5 : Below w.heap.size w w4 := B3.out.trans (k4.mono C1.out.size)
    have hmod := parts_mod (st := -1) (ix := 0) (i0 := n) (i1 := -5) (mx := 2) hT (by rw [← hw4]; exact other_block HA3.out.hf HA3.out.hg (by decide) _ _) (by rw [← hw4]; exact other_block HA3.out.hm HA3.out.hg (by decide) _ _) (by rw [← hw4]; exact box_set' HA3.out.hg _ _ rfl) (by rw [← hw4]; exact other_block HA3.out.he HA3.out.hg (by decide) _ _) (by rw [← hw4]; exact other_block HA3.out.hd HA3.out.hg (by decide) _ _) oc HA3.out.wf HA3.out.room
    rw [hw4]
    clear hw4
    refine (right_call (HE.out.later k5) hmod HST.out HOK.out (r := true) (by rw [(w32T (n := n) (by have := HN.out; omega) (by have := HN.out; omega))]; kernel_rfl)).mono ?_
    rintro e w5 ⟨rfl, c5⟩
    have K5 := Lib.hid (k5.trans (c5.mono k5.size))
    clear c5 k5 k4 hT oc hmod
    go_wp2_with fail
    go_ret
    exact ⟨rfl, K5.out⟩
  · have HN := Lib.hid hn
    have g1 : decide (0 ≤ n) = true := decide_eq_true (by omega)
    have g2 : decide (n < 4294967296) = true := decide_eq_true (by omega)
    have g3 : decide (-2147483648 ≤ n) = true := decide_eq_true (by omega)
    have g4 : decide (n < 2147483648) = false := decide_eq_false (by omega)
    clear hn
    go_wp2_with fail
    obtain ⟨w4, hw4⟩ : ∃ w4, w3.setCell ⟨bg, 2, none⟩ (.int .i64 n) = w4 := ⟨_, rfl⟩
    have oc : w4.ownsRow w1.heap.size 40 4 cv (madeP (l.take 20)).code.length (codeV (madeP (l.take 20)).code) := by rw [← hw4]; exact other_row HA3.out.hc HA3.out.hg (by decide) _ _
    have hT : TypesAt w4 (.slice (some ⟨bt, 0, none⟩) 1 1) oneFT := types_one (by rw [← hw4]; exact other_block HA3.out.ht HA3.out.hg (by decide) _ _)
    have k4 : Below w1.heap.size w3 w4 := by rw [← hw4]; exact (Below.refl _ _).setCell (p := ⟨bg, _, none⟩) HA3.out.low.2.2.2.1 _
    have k5 : Below w.heap.size w w4 := B3.out.trans (k4.mono C1.out.size)
    have hmod := parts_mod (st := -1) (ix := 0) (i0 := n) (i1 := -5) (mx := 2) hT (by rw [← hw4]; exact other_block HA3.out.hf HA3.out.hg (by decide) _ _) (by rw [← hw4]; exact other_block HA3.out.hm HA3.out.hg (by decide) _ _) (by rw [← hw4]; exact box_set' HA3.out.hg _ _ rfl) (by rw [← hw4]; exact other_block HA3.out.he HA3.out.hg (by decide) _ _) (by rw [← hw4]; exact other_block HA3.out.hd HA3.out.hg (by decide) _ _) oc HA3.out.wf HA3.out.room
    rw [hw4]
    clear hw4
    refine (right_call (HE.out.later k5) hmod HST.out HOK.out (r := false) (by rw [(w32F (n := n) (by have := HN.out; omega))]; kernel_rfl)).mono ?_
    rintro e w5 ⟨rfl, c5⟩
    have K5 := Lib.hid (k5.trans (c5.mono k5.size))
    clear c5 k5 k4 hT oc hmod
    go_wp2_with fail
    go_ret
    exact ⟨rfl, K5.out⟩
  · have HN := Lib.hid hn
    have g1 : decide (0 ≤ n) = true := decide_eq_true (by omega)
    have g2 : decide (n < 4294967296) = false := decide_eq_false (by omega)
    have g3 : decide (-2147483648 ≤ n) = true := decide_eq_true (by omega)
    have g4 : decide (n < 2147483648) = false := decide_eq_false (by omega)
    clear hn
    go_wp2_with fail
    obtain ⟨w4, hw4⟩ : ∃ w4, w3.setCell ⟨bg, 2, none⟩ (.int .i64 n) = w4 := ⟨_, rfl⟩
    have oc : w4.ownsRow w1.heap.size 40 4 cv (madeP (l.take 20)).code.length (codeV (madeP (l.take 20)).code) := by rw [← hw4]; exact other_row HA3.out.hc HA3.out.hg (by decide) _ _
    have hT : TypesAt w4 (.slice (some ⟨bt, 0, none⟩) 1 1) oneFT := types_one (by rw [← hw4]; exact other_block HA3.out.ht HA3.out.hg (by decide) _ _)
    have k4 : Below w1.heap.size w3 w4 := by rw [← hw4]; exact (Below.refl _ _).setCell (p := ⟨bg, _, none⟩) HA3.out.low.2.2.2.1 _
    have k5 : Below w.heap.size w w4 := B3.out.trans (k4.mono C1.out.size)
    have hmod := parts_mod (st := -1) (ix := 0) (i0 := n) (i1 := -5) (mx := 2) hT (by rw [← hw4]; exact other_block HA3.out.hf HA3.out.hg (by decide) _ _) (by rw [← hw4]; exact other_block HA3.out.hm HA3.out.hg (by decide) _ _) (by rw [← hw4]; exact box_set' HA3.out.hg _ _ rfl) (by rw [← hw4]; exact other_block HA3.out.he HA3.out.hg (by decide) _ _) (by rw [← hw4]; exact other_block HA3.out.hd HA3.out.hg (by decide) _ _) oc HA3.out.wf HA3.out.room
    rw [hw4]
    clear hw4
    refine (right_call (HE.out.later k5) hmod HST.out HOK.out (r := false) (by rw [(w32F (n := n) (by have := HN.out; omega))]; kernel_rfl)).mono ?_
    rintro e w5 ⟨rfl, c5⟩
    have K5 := Lib.hid (k5.trans (c5.mono k5.size))
    clear c5 k5 k4 hT oc hmod
    go_wp2_with fail
    go_ret
    exact ⟨rfl, K5.out⟩
set_option maxRecDepth 100000 in
set_option maxHeartbeats 8000000 in
theorem limits_3 (l : List Step) (which : Nat) (n : Int) (w : World) (hE : MEnv w) (hP : PowEnv w) (hw8 : which < 256) (hn0 : -9223372036854775808 ≤ n) (hn1 : n ≤ 9223372036854775807) (la : Option Addr) (lc : Nat) (hcap : l.length ≤ lc) (hv : StepsAt w (.slice la l.length lc) l) (hk : which % 6 = 3) :
    Calls Tryz.prog 9 #[.slice la l.length lc, .int .u8 (which : Int), .int .i64 n] w fun e w' => e = .returned (.bool true) ∧ Below w.heap.size w w' := by
  have hv2 := hv
  obtain ⟨_, _, _, hle, _⟩ := hv2.form
  have HX := Lib.hid (examples04 w hE hP)
  have HV := Lib.hid hv
  have HE := Lib.hid hE
  have HK := Lib.hid hk
  clear hE hP hv hv2 hk
  obtain ⟨M, hM⟩ : ∃ M, min l.length 20 = M := ⟨_, rfl⟩
  have hM1 : M ≤ l.length := by omega
  have hM2 : M ≤ lc := by omega
  have hM3 : min (l.length : Int) 20 = (M : Int) := by omega
  have HMM := Lib.hid hM
  clear hM
  have t0 : ((which : Int) % 6 == 0) = false := by have := HK.out; simp; omega
  have t1 : ((which : Int) % 6 == 1) = false := by have := HK.out; simp; omega
  have t2 : ((which : Int) % 6 == 2) = false := by have := HK.out; simp; omega
  have t3 : ((which : Int) % 6 == 3) = true := by have := HK.out; simp; omega
  go_enter Tryz.func9, Tryz.ntmps9
  go_wp2_with fail
  refine HX.out.mono ?_
  rintro e w1 ⟨rfl, c1⟩
  have C1 := Lib.hid c1
  clear c1
  go_wp2_with fail
  refine (made_any _ (l.take 20) w1 (ListAt.take (HV.out.later lasts_step C1.out) 20 M (by rw [List.length_take, ← HMM.out]; omega)) (made_opsWf _)).mono ?_
  rintro e w2 ⟨⟨bt, bf, bm, bg, be, bd, cv, rfl, hA⟩, c2⟩
  obtain ⟨w3, hw3⟩ : ∃ w3, w2.alloc (.cells #[slV bt 1, slV bf 1, slV bm 1, slV bg 2, slV be 1, .int .i64 (-1), slV bd 1] 29) = w3 := ⟨_, rfl⟩
  have k3 : Below w2.heap.size w2 w3 := by rw [← hw3]; exact (Below.refl _ _).alloc (Nat.le_refl _) _
  have hA3 := hA.later k3
  have hbox : w3.heap[w2.heap.size]? = some (.cells #[slV bt 1, slV bf 1, slV bm 1, slV bg 2, slV be 1, .int .i64 (-1), slV bd 1] 29 (0, 0)) := by rw [← hw3]; exact heap_alloc_new _ _
  have HS12 := Lib.hid c2.size
  have B3 := Lib.hid (C1.out.trans ((c2.trans (k3.mono c2.size)).mono C1.out.size))
  have HA3 := Lib.hid hA3
  have HBOX := Lib.hid hbox
  have HST := Lib.hid (made_struct (l.take 20))
  have HOK := Lib.hid (made_oks (l.take 20))
  unfold slV at hw3 hbox
  unfold madeV modV slV
  clear hA c2 k3 hA3
  go_upto_region 5 with fail
  clear hw3
  obtain ⟨q0, q1, q2, q3, q4, q5, q6⟩ := box_cells hbox
  have y0 : w3.frozen? ⟨w2.heap.size, 0, none⟩ = false := frozen_of_row _ _ _ _ _ hbox
  have y5 : w3.frozen? ⟨w2.heap.size, 5, none⟩ = false := frozen_of_row _ _ _ _ _ hbox
  have hlt2 : w2.heap.size < w3.heap.size := World.block_lt_of_cell? _ _ q0
  clear hbox
  have p1 : w3.cell? ⟨bg, 5, none⟩ = some (.int .i64 (-5)) := cell_of_row _ _ _ _ _ _ HA3.out.hg
  have p2 : w3.frozen? ⟨bg, 5, none⟩ = false := frozen_of_row _ _ _ _ _ HA3.out.hg
  have p3 : w2.heap.size ≠ bg := fun e => by have h1 := HBOX.out; have h2 := HA3.out.hg; rw [e, h2] at h1; simp at h1
  have p4 : bg ≠ w2.heap.size := fun e => p3 e.symm
  have HW12 := Lib.hid (show w1.heap.size ≤ w2.heap.size from HS12.out)
  have HW2 := Lib.hid (Nat.le_trans C1.out.size HW12.out)
  rcases (show n < -2147483648 ∨ (-2147483648 ≤ n ∧ n < -1) ∨ n = -1 ∨ (0 ≤ n ∧ n < 2147483648) ∨ (2147483648 ≤ n ∧ n < 4294967296) ∨ 4294967296 ≤ n by omega) with hn | hn | hn | hn | hn | hn
  · have HN := Lib.hid hn
    have g1 : decide (0 ≤ n) = false := decide_eq_false (by omega)
    have g2 : decide (n < 4294967296) = true := decide_eq_true (by omega)
    clear hn
    go_wp2_with fail
    obtain ⟨w4, hw4⟩ : ∃ w4, w3.setCell ⟨bg, 5, none⟩ (.int .i64 n) = w4 := ⟨_, rfl⟩
    have oc : w4.ownsRow w1.heap.size 40 4 cv (madeP (l.take 20)).code.length (codeV (madeP (l.take 20)).code) := by rw [← hw4]; exact other_row HA3.out.hc HA3.out.hg (by decide) _ _
    have hT : TypesAt w4 (.slice (some ⟨bt, 0, none⟩) 1 1) oneFT := types_one (by rw [← hw4]; exact other_block HA3.out.ht HA3.out.hg (by decide) _ _)
    have k4 : Below w1.heap.size w3 w4 := by rw [← hw4]; exact (Below.refl _ _).setCell (p := ⟨bg, _, none⟩) HA3.out.low.2.2.2.1 _
    have k5 : Below w.heap.size w w4 := B3.out.trans (k4.mono C1.out.size)
    have hmod := parts_mod (st := -1) (ix := 0) (i0 := 5) (i1 := n) (mx := 2) hT (by rw [← hw4]; exact other_block HA3.out.hf HA3.out.hg (by decide) _ _) (by rw [← hw4]; exact other_block HA3.out.hm HA3.out.hg (by decide) _ _) (by rw [← hw4]; exact box_set' HA3.out.hg _ _ rfl) (by rw [← hw4]; exact other_block HA3.out.he HA3.out.hg (by decide) _ _) (by rw [← hw4]; exact other_block HA3.out.hd HA3.out.hg (by decide) _ _) oc HA3.out.wf HA3.out.room
    rw [hw4]
    clear hw4
    refine (right_call (HE.out.later k5) hmod HST.out HOK.out (r := true) (by kernel_rfl)).mono ?_
    rintro e w5 ⟨rfl, c5⟩
    have K5 := Lib.hid (k5.trans (c5.mono k5.size))
    clear c5 k5 k4 hT oc hmod
    go_wp2_with fail
    go_ret
    exact ⟨rfl, K5.out⟩
  · have HN := Lib.hid hn
    have g1 : decide (0 ≤ n) = false := decide_eq_false (by omega)
    have g2 : decide (n < 4294967296) = true := decide_eq_true (by omega)
    clear hn
    go_wp2_with fail
    obtain ⟨w4, hw4⟩ : ∃ w4, w3.setCell ⟨bg, 5, none⟩ (.int .i64 n) = w4 := ⟨_, rfl⟩
    have oc : w4.ownsRow w1.heap.size 40 4 cv (madeP (l.take 20)).code.length (codeV (madeP (l.take 20)).code) := by rw [← hw4]; exact other_row HA3.out.hc HA3.out.hg (by decide) _ _
    have hT : TypesAt w4 (.slice (some ⟨bt, 0, none⟩) 1 1) oneFT := types_one (by rw [← hw4]; exact other_block HA3.out.ht HA3.out.hg (by decide) _ _)
    have k4 : Below w1.heap.size w3 w4 := by rw [← hw4]; exact (Below.refl _ _).setCell (p := ⟨bg, _, none⟩) HA3.out.low.2.2.2.1 _
    have k5 : Below w.heap.size w w4 := B3.out.trans (k4.mono C1.out.size)
    have hmod := parts_mod (st := -1) (ix := 0) (i0 := 5) (i1 := n) (mx := 2) hT (by rw [← hw4]; exact other_block HA3.out.hf HA3.out.hg (by decide) _ _) (by rw [← hw4]; exact other_block HA3.out.hm HA3.out.hg (by decide) _ _) (by rw [← hw4]; exact box_set' HA3.out.hg _ _ rfl) (by rw [← hw4]; exact other_block HA3.out.he HA3.out.hg (by decide) _ _) (by rw [← hw4]; exact other_block HA3.out.hd HA3.out.hg (by decide) _ _) oc HA3.out.wf HA3.out.room
    rw [hw4]
    clear hw4
    refine (right_call (HE.out.later k5) hmod HST.out HOK.out (r := true) (by kernel_rfl)).mono ?_
    rintro e w5 ⟨rfl, c5⟩
    have K5 := Lib.hid (k5.trans (c5.mono k5.size))
    clear c5 k5 k4 hT oc hmod
    go_wp2_with fail
    go_ret
    exact ⟨rfl, K5.out⟩
  · have HN := Lib.hid hn
    have g1 : decide (0 ≤ n) = false := decide_eq_false (by omega)
    have g2 : decide (n < 4294967296) = true := decide_eq_true (by omega)
    clear hn
    go_wp2_with fail
    obtain ⟨w4, hw4⟩ : ∃ w4, w3.setCell ⟨bg, 5, none⟩ (.int .i64 n) = w4 := ⟨_, rfl⟩
    have oc : w4.ownsRow w1.heap.size 40 4 cv (madeP (l.take 20)).code.length (codeV (madeP (l.take 20)).code) := by rw [← hw4]; exact other_row HA3.out.hc HA3.out.hg (by decide) _ _
    have hT : TypesAt w4 (.slice (some ⟨bt, 0, none⟩) 1 1) oneFT := types_one (by rw [← hw4]; exact other_block HA3.out.ht HA3.out.hg (by decide) _ _)
    have k4 : Below w1.heap.size w3 w4 := by rw [← hw4]; exact (Below.refl _ _).setCell (p := ⟨bg, _, none⟩) HA3.out.low.2.2.2.1 _
    have k5 : Below w.heap.size w w4 := B3.out.trans (k4.mono C1.out.size)
    have hmod := parts_mod (st := -1) (ix := 0) (i0 := 5) (i1 := n) (mx := 2) hT (by rw [← hw4]; exact other_block HA3.out.hf HA3.out.hg (by decide) _ _) (by rw [← hw4]; exact other_block HA3.out.hm HA3.out.hg (by decide) _ _) (by rw [← hw4]; exact box_set' HA3.out.hg _ _ rfl) (by rw [← hw4]; exact other_block HA3.out.he HA3.out.hg (by decide) _ _) (by rw [← hw4]; exact other_block HA3.out.hd HA3.out.hg (by decide) _ _) oc HA3.out.wf HA3.out.room
    rw [hw4]
    clear hw4
    refine (right_call (HE.out.later k5) hmod HST.out HOK.out (r := true) (by kernel_rfl)).mono ?_
    rintro e w5 ⟨rfl, c5⟩
    have K5 := Lib.hid (k5.trans (c5.mono k5.size))
    clear c5 k5 k4 hT oc hmod
    go_wp2_with fail
    go_ret
    exact ⟨rfl, K5.out⟩
  · have HN := Lib.hid hn
    have g1 : decide (0 ≤ n) = true := decide_eq_true (by omega)
    have g2 : decide (n < 4294967296) = true := decide_eq_true (by omega)
    clear hn
    go_wp2_with fail
    obtain ⟨w4, hw4⟩ : ∃ w4, w3.setCell ⟨bg, 5, none⟩ (.int .i64 n) = w4 := ⟨_, rfl⟩
    have oc : w4.ownsRow w1.heap.size 40 4 cv (madeP (l.take 20)).code.length (codeV (madeP (l.take 20)).code) := by rw [← hw4]; exact other_row HA3.out.hc HA3.out.hg (by decide) _ _
    have hT : TypesAt w4 (.slice (some ⟨bt, 0, none⟩) 1 1) oneFT := types_one (by rw [← hw4]; exact other_block HA3.out.ht HA3.out.hg (by decide) _ _)
    have k4 : Below w1.heap.size w3 w4 := by rw [← hw4]; exact (Below.refl _ _).setCell (p := ⟨bg, _, none⟩) HA3.out.low.2.2.2.1 _
    have k5 : Below w.heap.size w w4 := B3.out.trans (k4.mono C1.out.size)
    have hmod := parts_mod (st := -1) (ix := 0) (i0 := 5) (i1 := n) (mx := 2) hT (by rw [← hw4]; exact other_block HA3.out.hf HA3.out.hg (by decide) _ _) (by rw [← hw4]; exact other_block HA3.out.hm HA3.out.hg (by decide) _ _) (by rw [← hw4]; exact box_set' HA3.out.hg _ _ rfl) (by rw [← hw4]; exact other_block HA3.out.he HA3.out.hg (by decide) _ _) (by rw [← hw4]; exact other_block HA3.out.hd HA3.out.hg (by decide) _ _) oc HA3.out.wf HA3.out.room
    rw [hw4]
    clear hw4
    refine (right_call (HE.out.later k5) hmod HST.out HOK.out (r := true) (by kernel_rfl)).mono ?_
    rintro e w5 ⟨rfl, c5⟩
    have K5 := Lib.hid (k5.trans (c5.mono k5.size))
    clear c5 k5 k4 hT oc hmod
    go_wp2_with fail
    go_ret
    exact ⟨rfl, K5.out⟩
  · have HN := Lib.hid hn
    have g1 : decide (0 ≤ n) = true := decide_eq_true (by omega)
    have g2 : decide (n < 4294967296) = true := decide_eq_true (by omega)
    clear hn
    go_wp2_with fail
    obtain ⟨w4, hw4⟩ : ∃ w4, w3.setCell ⟨bg, 5, none⟩ (.int .i64 n) = w4 := ⟨_, rfl⟩
    have oc : w4.ownsRow w1.heap.size 40 4 cv (madeP (l.take 20)).code.length (codeV (madeP (l.take 20)).code) := by rw [← hw4]; exact other_row HA3.out.hc HA3.out.hg (by decide) _ _
    have hT : TypesAt w4 (.slice (some ⟨bt, 0, none⟩) 1 1) oneFT := types_one (by rw [← hw4]; exact other_block HA3.out.ht HA3.out.hg (by decide) _ _)
    have k4 : Below w1.heap.size w3 w4 := by rw [← hw4]; exact (Below.refl _ _).setCell (p := ⟨bg, _, none⟩) HA3.out.low.2.2.2.1 _
    have k5 : Below w.heap.size w w4 := B3.out.trans (k4.mono C1.out.size)
    have hmod := parts_mod (st := -1) (ix := 0) (i0 := 5) (i1 := n) (mx := 2) hT (by rw [← hw4]; exact other_block HA3.out.hf HA3.out.hg (by decide) _ _) (by rw [← hw4]; exact other_block HA3.out.hm HA3.out.hg (by decide) _ _) (by rw [← hw4]; exact box_set' HA3.out.hg _ _ rfl) (by rw [← hw4]; exact other_block HA3.out.he HA3.out.hg (by decide) _ _) (by rw [← hw4]; exact other_block HA3.out.hd HA3.out.hg (by decide) _ _) oc HA3.out.wf HA3.out.room
    rw [hw4]
    clear hw4
    refine (right_call (HE.out.later k5) hmod HST.out HOK.out (r := true) (by kernel_rfl)).mono ?_
    rintro e w5 ⟨rfl, c5⟩
    have K5 := Lib.hid (k5.trans (c5.mono k5.size))
    clear c5 k5 k4 hT oc hmod
    go_wp2_with fail
    go_ret
    exact ⟨rfl, K5.out⟩
  · have HN := Lib.hid hn
    have g1 : decide (0 ≤ n) = true := decide_eq_true (by omega)
    have g2 : decide (n < 4294967296) = false := decide_eq_false (by omega)
    clear hn
    go_wp2_with fail
    obtain ⟨w4, hw4⟩ : ∃ w4, w3.setCell ⟨bg, 5, none⟩ (.int .i64 n) = w4 := ⟨_, rfl⟩
    have oc : w4.ownsRow w1.heap.size 40 4 cv (madeP (l.take 20)).code.length (codeV (madeP (l.take 20)).code) := by rw [← hw4]; exact other_row HA3.out.hc HA3.out.hg (by decide) _ _
    have hT : TypesAt w4 (.slice (some ⟨bt, 0, none⟩) 1 1) oneFT := types_one (by rw [← hw4]; exact other_block HA3.out.ht HA3.out.hg (by decide) _ _)
    have k4 : Below w1.heap.size w3 w4 := by rw [← hw4]; exact (Below.refl _ _).setCell (p := ⟨bg, _, none⟩) HA3.out.low.2.2.2.1 _
    have k5 : Below w.heap.size w w4 := B3.out.trans (k4.mono C1.out.size)
    have hmod := parts_mod (st := -1) (ix := 0) (i0 := 5) (i1 := n) (mx := 2) hT (by rw [← hw4]; exact other_block HA3.out.hf HA3.out.hg (by decide) _ _) (by rw [← hw4]; exact other_block HA3.out.hm HA3.out.hg (by decide) _ _) (by rw [← hw4]; exact box_set' HA3.out.hg _ _ rfl) (by rw [← hw4]; exact other_block HA3.out.he HA3.out.hg (by decide) _ _) (by rw [← hw4]; exact other_block HA3.out.hd HA3.out.hg (by decide) _ _) oc HA3.out.wf HA3.out.room
    rw [hw4]
    clear hw4
    refine (right_call (HE.out.later k5) hmod HST.out HOK.out (r := true) (by kernel_rfl)).mono ?_
    rintro e w5 ⟨rfl, c5⟩
    have K5 := Lib.hid (k5.trans (c5.mono k5.size))
    clear c5 k5 k4 hT oc hmod
    go_wp2_with fail
    go_ret
    exact ⟨rfl, K5.out⟩
set_option maxRecDepth 100000 in
set_option maxHeartbeats 8000000 in
theorem limits_4 (l : List Step) (which : Nat) (n : Int) (w : World) (hE : MEnv w) (hP : PowEnv w) (hw8 : which < 256) (hn0 : -9223372036854775808 ≤ n) (hn1 : n ≤ 9223372036854775807) (la : Option Addr) (lc : Nat) (hcap : l.length ≤ lc) (hv : StepsAt w (.slice la l.length lc) l) (hk : which % 6 = 4) :
    Calls Tryz.prog 9 #[.slice la l.length lc, .int .u8 (which : Int), .int .i64 n] w fun e w' => e = .returned (.bool true) ∧ Below w.heap.size w w' := by
  have hv2 := hv
  obtain ⟨_, _, _, hle, _⟩ := hv2.form
  have HX := Lib.hid (examples04 w hE hP)
  have HV := Lib.hid hv
  have HE := Lib.hid hE
  have HK := Lib.hid hk
  clear hE hP hv hv2 hk
  obtain ⟨M, hM⟩ : ∃ M, min l.length 20 = M := ⟨_, rfl⟩
  have hM1 : M ≤ l.length := by omega
  have hM2 : M ≤ lc := by omega
  have hM3 : min (l.length : Int) 20 = (M : Int) := by omega
  have HMM := Lib.hid hM
  clear hM
  have t0 : ((which : Int) % 6 == 0) = false := by have := HK.out; simp; omega
  have t1 : ((which : Int) % 6 == 1) = false := by have := HK.out; simp; omega
  have t2 : ((which : Int) % 6 == 2) = false := by have := HK.out; simp; omega
  have t3 : ((which : Int) % 6 == 3) = false := by have := HK.out; simp; omega
  have t4 : ((which : Int) % 6 == 4) = true := by have := HK.out; simp; omega
  go_enter Tryz.func9, Tryz.ntmps9
  go_wp2_with fail
  refine HX.out.mono ?_
  rintro e w1 ⟨rfl, c1⟩
  have C1 := Lib.hid c1
  clear c1
  go_wp2_with fail
  refine (made_any _ (l.take 20) w1 (ListAt.take (HV.out.later lasts_step C1.out) 20 M (by rw [List.length_take, ← HMM.out]; omega)) (made_opsWf _)).mono ?_
  rintro e w2 ⟨⟨bt, bf, bm, bg, be, bd, cv, rfl, hA⟩, c2⟩
  obtain ⟨w3, hw3⟩ : ∃ w3, w2.alloc (.cells #[slV bt 1, slV bf 1, slV bm 1, slV bg 2, slV be 1, .int .i64 (-1), slV bd 1] 29) = w3 := ⟨_, rfl⟩
  have k3 : Below w2.heap.size w2 w3 := by rw [← hw3]; exact (Below.refl _ _).alloc (Nat.le_refl _) _
  have hA3 := hA.later k3
  have hbox : w3.heap[w2.heap.size]? = some (.cells #[slV bt 1, slV bf 1, slV bm 1, slV bg 2, slV be 1, .int .i64 (-1), slV bd 1] 29 (0, 0)) := by rw [← hw3]; exact heap_alloc_new _ _
  have HS12 := Lib.hid c2.size
  have B3 := Lib.hid (C1.out.trans ((c2.trans (k3.mono c2.size)).mono C1.out.size))
  have HA3 := Lib.hid hA3
  have HBOX := Lib.hid hbox
  have HST := Lib.hid (made_struct (l.take 20))
  have HOK := Lib.hid (made_oks (l.take 20))
  unfold slV at hw3 hbox
  unfold madeV modV slV
  clear hA c2 k3 hA3
  go_upto_region 5 with fail
  clear hw3
  obtain ⟨q0, q1, q2, q3, q4, q5, q6⟩ := box_cells hbox
  have y0 : w3.frozen? ⟨w2.heap.size, 0, none⟩ = false := frozen_of_row _ _ _ _ _ hbox
  have y5 : w3.frozen? ⟨w2.heap.size, 5, none⟩ = false := frozen_of_row _ _ _ _ _ hbox
  have hlt2 : w2.heap.size < w3.heap.size := World.block_lt_of_cell? _ _ q0
  clear hbox
  have p1 : w3.cell? ⟨bm, 1, none⟩ = some (.int .i64 2) := cell_of_row _ _ _ _ _ _ HA3.out.hm
  have p2 : w3.frozen? ⟨bm, 1, none⟩ = false := frozen_of_row _ _ _ _ _ HA3.out.hm
  have p3 : w2.heap.size ≠ bm := fun e => by have h1 := HBOX.out; have h2 := HA3.out.hm; rw [e, h2] at h1; simp at h1
  have p4 : bm ≠ w2.heap.size := fun e => p3 e.symm
  have HW12 := Lib.hid (show w1.heap.size ≤ w2.heap.size from HS12.out)
  have HW2 := Lib.hid (Nat.le_trans C1.out.size HW12.out)
  rcases (show n < -2147483648 ∨ (-2147483648 ≤ n ∧ n < -1) ∨ n = -1 ∨ (0 ≤ n ∧ n < 2147483648) ∨ (2147483648 ≤ n ∧ n < 4294967296) ∨ 4294967296 ≤ n by omega) with hn | hn | hn | hn | hn | hn
  · have HN := Lib.hid hn
    have g1 : decide (0 ≤ n) = false := decide_eq_false (by omega)
    have g2 : decide (n < 4294967296) = true := decide_eq_true (by omega)
    have g3 : (n == -1) = false := by simp; omega
    clear hn
    go_wp2_with fail
    obtain ⟨w4, hw4⟩ : ∃ w4, w3.setCell ⟨bm, 1, none⟩ (.int .i64 n) = w4 := ⟨_, rfl⟩
    have oc : w4.ownsRow w1.heap.size 40 4 cv (madeP (l.take 20)).code.length (codeV (madeP (l.take 20)).code) := by rw [← hw4]; exact other_row HA3.out.hc HA3.out.hm (by decide) _ _
    have hT : TypesAt w4 (.slice (some ⟨bt, 0, none⟩) 1 1) oneFT := types_one (by rw [← hw4]; exact other_block HA3.out.ht HA3.out.hm (by decide) _ _)
    have k4 : Below w1.heap.size w3 w4 := by rw [← hw4]; exact (Below.refl _ _).setCell (p := ⟨bm, _, none⟩) HA3.out.low.2.2.1 _
    have k5 : Below w.heap.size w w4 := B3.out.trans (k4.mono C1.out.size)
    have hmod := parts_mod (st := -1) (ix := 0) (i0 := 5) (i1 := -5) (mx := n) hT (by rw [← hw4]; exact other_block HA3.out.hf HA3.out.hm (by decide) _ _) (by rw [← hw4]; exact box_set' HA3.out.hm _ _ rfl) (by rw [← hw4]; exact other_block HA3.out.hg HA3.out.hm (by decide) _ _) (by rw [← hw4]; exact other_block HA3.out.he HA3.out.hm (by decide) _ _) (by rw [← hw4]; exact other_block HA3.out.hd HA3.out.hm (by decide) _ _) oc HA3.out.wf HA3.out.room
    rw [hw4]
    clear hw4
    refine (right_call (HE.out.later k5) hmod HST.out HOK.out (r := false) (by rw [show (n == -1) = false by have := HN.out; simp; omega, (wordF (n := n) (by have := HN.out; omega))]; kernel_rfl)).mono ?_
    rintro e w5 ⟨rfl, c5⟩
    have K5 := Lib.hid (k5.trans (c5.mono k5.size))
    clear c5 k5 k4 hT oc hmod
    go_wp2_with fail
    go_ret
    exact ⟨rfl, K5.out⟩
  · have HN := Lib.hid hn
    have g1 : decide (0 ≤ n) = false := decide_eq_false (by omega)
    have g2 : decide (n < 4294967296) = true := decide_eq_true (by omega)
    have g3 : (n == -1) = false := by simp; omega
    clear hn
    go_wp2_with fail
    obtain ⟨w4, hw4⟩ : ∃ w4, w3.setCell ⟨bm, 1, none⟩ (.int .i64 n) = w4 := ⟨_, rfl⟩
    have oc : w4.ownsRow w1.heap.size 40 4 cv (madeP (l.take 20)).code.length (codeV (madeP (l.take 20)).code) := by rw [← hw4]; exact other_row HA3.out.hc HA3.out.hm (by decide) _ _
    have hT : TypesAt w4 (.slice (some ⟨bt, 0, none⟩) 1 1) oneFT := types_one (by rw [← hw4]; exact other_block HA3.out.ht HA3.out.hm (by decide) _ _)
    have k4 : Below w1.heap.size w3 w4 := by rw [← hw4]; exact (Below.refl _ _).setCell (p := ⟨bm, _, none⟩) HA3.out.low.2.2.1 _
    have k5 : Below w.heap.size w w4 := B3.out.trans (k4.mono C1.out.size)
    have hmod := parts_mod (st := -1) (ix := 0) (i0 := 5) (i1 := -5) (mx := n) hT (by rw [← hw4]; exact other_block HA3.out.hf HA3.out.hm (by decide) _ _) (by rw [← hw4]; exact box_set' HA3.out.hm _ _ rfl) (by rw [← hw4]; exact other_block HA3.out.hg HA3.out.hm (by decide) _ _) (by rw [← hw4]; exact other_block HA3.out.he HA3.out.hm (by decide) _ _) (by rw [← hw4]; exact other_block HA3.out.hd HA3.out.hm (by decide) _ _) oc HA3.out.wf HA3.out.room
    rw [hw4]
    clear hw4
    refine (right_call (HE.out.later k5) hmod HST.out HOK.out (r := false) (by rw [show (n == -1) = false by have := HN.out; simp; omega, (wordF (n := n) (by have := HN.out; omega))]; kernel_rfl)).mono ?_
    rintro e w5 ⟨rfl, c5⟩
    have K5 := Lib.hid (k5.trans (c5.mono k5.size))
    clear c5 k5 k4 hT oc hmod
    go_wp2_with fail
    go_ret
    exact ⟨rfl, K5.out⟩
  · have HN := Lib.hid hn
    have g1 : decide (0 ≤ n) = false := decide_eq_false (by omega)
    have g2 : decide (n < 4294967296) = true := decide_eq_true (by omega)
    have g3 : (n == -1) = true := by simp; omega
    clear hn
    go_wp2_with fail
    obtain ⟨w4, hw4⟩ : ∃ w4, w3.setCell ⟨bm, 1, none⟩ (.int .i64 n) = w4 := ⟨_, rfl⟩
    have oc : w4.ownsRow w1.heap.size 40 4 cv (madeP (l.take 20)).code.length (codeV (madeP (l.take 20)).code) := by rw [← hw4]; exact other_row HA3.out.hc HA3.out.hm (by decide) _ _
    have hT : TypesAt w4 (.slice (some ⟨bt, 0, none⟩) 1 1) oneFT := types_one (by rw [← hw4]; exact other_block HA3.out.ht HA3.out.hm (by decide) _ _)
    have k4 : Below w1.heap.size w3 w4 := by rw [← hw4]; exact (Below.refl _ _).setCell (p := ⟨bm, _, none⟩) HA3.out.low.2.2.1 _
    have k5 : Below w.heap.size w w4 := B3.out.trans (k4.mono C1.out.size)
    have hmod := parts_mod (st := -1) (ix := 0) (i0 := 5) (i1 := -5) (mx := n) hT (by rw [← hw4]; exact other_block HA3.out.hf HA3.out.hm (by decide) _ _) (by rw [← hw4]; exact box_set' HA3.out.hm _ _ rfl) (by rw [← hw4]; exact other_block HA3.out.hg HA3.out.hm (by decide) _ _) (by rw [← hw4]; exact other_block HA3.out.he HA3.out.hm (by decide) _ _) (by rw [← hw4]; exact other_block HA3.out.hd HA3.out.hm (by decide) _ _) oc HA3.out.wf HA3.out.room
    rw [hw4]
    clear hw4
    refine (right_call (HE.out.later k5) hmod HST.out HOK.out (r := true) (by rw [show (n == -1) = true by have := HN.out; simp; omega, Bool.true_or]; kernel_rfl)).mono ?_
    rintro e w5 ⟨rfl, c5⟩
    have K5 := Lib.hid (k5.trans (c5.mono k5.size))
    clear c5 k5 k4 hT oc hmod
    go_wp2_with fail
    go_ret
    exact ⟨rfl, K5.out⟩
  · have HN := Lib.hid hn
    have g1 : decide (0 ≤ n) = true := decide_eq_true (by omega)
    have g2 : decide (n < 4294967296) = true := decide_eq_true (by omega)
    have g3 : (n == -1) = false := by simp; omega
    clear hn
    go_wp2_with fail
    obtain ⟨w4, hw4⟩ : ∃ w4, w3.setCell ⟨bm, 1, none⟩ (.int .i64 n) = w4 := ⟨_, rfl⟩
    have oc : w4.ownsRow w1.heap.size 40 4 cv (madeP (l.take 20)).code.length (codeV (madeP (l.take 20)).code) := by rw [← hw4]; exact other_row HA3.out.hc HA3.out.hm (by decide) _ _
    have hT : TypesAt w4 (.slice (some ⟨bt, 0, none⟩) 1 1) oneFT := types_one (by rw [← hw4]; exact other_block HA3.out.ht HA3.out.hm (by decide) _ _)
    have k4 : Below w1.heap.size w3 w4 := by rw [← hw4]; exact (Below.refl _ _).setCell (p := ⟨bm, _, none⟩) HA3.out.low.2.2.1 _
    have k5 : Below w.heap.size w w4 := B3.out.trans (k4.mono C1.out.size)
    have hmod := parts_mod (st := -1) (ix := 0) (i0 := 5) (i1 := -5) (mx := n) hT (by rw [← hw4]; exact other_block HA3.out.hf HA3.out.hm (by decide) _ _) (by rw [← hw4]; exact box_set' HA3.out.hm _ _ rfl) (by rw [← hw4]; exact other_block HA3.out.hg HA3.out.hm (by decide) _ _) (by rw [← hw4]; exact other_block HA3.out.he HA3.out.hm (by decide) _ _) (by rw [← hw4]; exact other_block HA3.out.hd HA3.out.hm (by decide) _ _) oc HA3.out.wf HA3.out.room
    rw [hw4]
    clear hw4
    refine (right_call (HE.out.later k5) hmod HST.out HOK.out (r := true) (by rw [show (n == -1) = false by have := HN.out; simp; omega, (wordT (n := n) (by have := HN.out; omega) (by have := HN.out; omega))]; kernel_rfl)).mono ?_
    rintro e w5 ⟨rfl, c5⟩
    have K5 := Lib.hid (k5.trans (c5.mono k5.size))
    clear c5 k5 k4 hT oc hmod
    go_wp2_with fail
    go_ret
    exact ⟨rfl, K5.out⟩
  · have HN := Lib.hid hn
    have g1 : decide (0 ≤ n) = true := decide_eq_true (by omega)
    have g2 : decide (n < 4294967296) = true := decide_eq_true (by omega)
    have g3 : (n == -1) = false := by simp; omega
    clear hn
    go_wp2_with fail
    obtain ⟨w4, hw4⟩ : ∃ w4, w3.setCell ⟨bm, 1, none⟩ (.int .i64 n) = w4 := ⟨_, rfl⟩
    have oc : w4.ownsRow w1.heap.size 40 4 cv (madeP (l.take 20)).code.length (codeV (madeP (l.take 20)).code) := by rw [← hw4]; exact other_row HA3.out.hc HA3.out.hm (by decide) _ _
    have hT : TypesAt w4 (.slice (some ⟨bt, 0, none⟩) 1 1) oneFT := types_one (by rw [← hw4]; exact other_block HA3.out.ht HA3.out.hm (by decide) _ _)
    have k4 : Below w1.heap.size w3 w4 := by rw [← hw4]; exact (Below.refl _ _).setCell (p := ⟨bm, _, none⟩) HA3.out.low.2.2.1 _
    have k5 : Below w.heap.size w w4 := B3.out.trans (k4.mono C1.out.size)
    have hmod := parts_mod (st := -1) (ix := 0) (i0 := 5) (i1 := -5) (mx := n) hT (by rw [← hw4]; exact other_block HA3.out.hf HA3.out.hm (by decide) _ _) (by rw [← hw4]; exact box_set' HA3.out.hm _ _ rfl) (by rw [← hw4]; exact other_block HA3.out.hg HA3.out.hm (by decide) _ _) (by rw [← hw4]; exact other_block HA3.out.he HA3.out.hm (by decide) _ _) (by rw [← hw4]; exact other_block HA3.out.hd HA3.out.hm (by decide) _ _) oc HA3.out.wf HA3.out.room
    rw [hw4]
    clear hw4
    refine (right_call (HE.out.later k5) hmod HST.out HOK.out (r := true) (by rw [show (n == -1) = false by have := HN.out; simp; omega, (wordT (n := n) (by have := HN.out; omega) (by have := HN.out; omega))]; kernel_rfl)).mono ?_
    rintro e w5 ⟨rfl, c5⟩
    have K5 := Lib.hid (k5.trans (c5.mono k5.size))
    clear c5 k5 k4 hT oc hmod
    go_wp2_with fail
    go_ret
    exact ⟨rfl, K5.out⟩
  · have HN := Lib.hid hn
    have g1 : decide (0 ≤ n) = true := decide_eq_true (by omega)
    have g2 : decide (n < 4294967296) = false := decide_eq_false (by omega)
    have g3 : (n == -1) = false := by simp; omega
    clear hn
    go_wp2_with fail
    obtain ⟨w4, hw4⟩ : ∃ w4, w3.setCell ⟨bm, 1, none⟩ (.int .i64 n) = w4 := ⟨_, rfl⟩
    have oc : w4.ownsRow w1.heap.size 40 4 cv (madeP (l.take 20)).code.length (codeV (madeP (l.take 20)).code) := by rw [← hw4]; exact other_row HA3.out.hc HA3.out.hm (by decide) _ _
    have hT : TypesAt w4 (.slice (some ⟨bt, 0, none⟩) 1 1) oneFT := types_one (by rw [← hw4]; exact other_block HA3.out.ht HA3.out.hm (by decide) _ _)
    have k4 : Below w1.heap.size w3 w4 := by rw [← hw4]; exact (Below.refl _ _).setCell (p := ⟨bm, _, none⟩) HA3.out.low.2.2.1 _
    have k5 : Below w.heap.size w w4 := B3.out.trans (k4.mono C1.out.size)
    have hmod := parts_mod (st := -1) (ix := 0) (i0 := 5) (i1 := -5) (mx := n) hT (by rw [← hw4]; exact other_block HA3.out.hf HA3.out.hm (by decide) _ _) (by rw [← hw4]; exact box_set' HA3.out.hm _ _ rfl) (by rw [← hw4]; exact other_block HA3.out.hg HA3.out.hm (by decide) _ _) (by rw [← hw4]; exact other_block HA3.out.he HA3.out.hm (by decide) _ _) (by rw [← hw4]; exact other_block HA3.out.hd HA3.out.hm (by decide) _ _) oc HA3.out.wf HA3.out.room
    rw [hw4]
    clear hw4
    refine (right_call (HE.out.later k5) hmod HST.out HOK.out (r := false) (by rw [show (n == -1) = false by have := HN.out; simp; omega, (wordF (n := n) (by have := HN.out; omega))]; kernel_rfl)).mono ?_
    rintro e w5 ⟨rfl, c5⟩
    have K5 := Lib.hid (k5.trans (c5.mono k5.size))
    clear c5 k5 k4 hT oc hmod
    go_wp2_with fail
    go_ret
    exact ⟨rfl, K5.out⟩
set_option maxRecDepth 100000 in
set_option maxHeartbeats 8000000 in
theorem limits_5 (l : List Step) (which : Nat) (n : Int) (w : World) (hE : MEnv w) (hP : PowEnv w) (hw8 : which < 256) (hn0 : -9223372036854775808 ≤ n) (hn1 : n ≤ 9223372036854775807) (la : Option Addr) (lc : Nat) (hcap : l.length ≤ lc) (hv : StepsAt w (.slice la l.length lc) l) (hk : which % 6 = 5) :
    Calls Tryz.prog 9 #[.slice la l.length lc, .int .u8 (which : Int), .int .i64 n] w fun e w' => e = .returned (.bool true) ∧ Below w.heap.size w w' := by
  have hv2 := hv
  obtain ⟨_, _, _, hle, _⟩ := hv2.form
  have HX := Lib.hid (examples04 w hE hP)
  have HV := Lib.hid hv
  have HE := Lib.hid hE
  have HK := Lib.hid hk
  clear hE hP hv hv2 hk
  obtain ⟨M, hM⟩ : ∃ M, min l.length 20 = M := ⟨_, rfl⟩
  have hM1 : M ≤ l.length := by omega
  have hM2 : M ≤ lc := by omega
  have hM3 : min (l.length : Int) 20 = (M : Int) := by omega
  have HMM := Lib.hid hM
  clear hM
  have t0 : ((which : Int) % 6 == 0) = false := by have := HK.out; simp; omega
  have t1 : ((which : Int) % 6 == 1) = false := by have := HK.out; simp; omega
  have t2 : ((which : Int) % 6 == 2) = false := by have := HK.out; simp; omega
  have t3 : ((which : Int) % 6 == 3) = false := by have := HK.out; simp; omega
  have t4 : ((which : Int) % 6 == 4) = false := by have := HK.out; simp; omega
  obtain ⟨U, hU⟩ : ∃ U : Nat, IntKind.u64.wrap n = (U : Int) := ⟨(IntKind.u64.wrap n).toNat, (Int.toNat_of_nonneg (u64_pos n)).symm⟩
  obtain ⟨q, hq⟩ : ∃ q : Nat, U % 5000 = q := ⟨_, rfl⟩
  have hq1 : q < 5000 := by omega
  have hq2 : (U : Int) % 5000 = (q : Int) := by omega
  have HQ := Lib.hid hq
  clear hq
  obtain ⟨i0, hi, hz0, hz1, hz2⟩ := info_of linfo_ft
  obtain ⟨MK, hMK⟩ : ∃ MK, madeCells (.agg #[.string ⟨#[]⟩, .string ⟨#[]⟩] : Value).cells (q * 2) = MK := ⟨_, rfl⟩
  have hmk : ∀ W, (Instr.makeSlice 22 (.int .i64 (q : Int)) (.int .i64 (q : Int))).run Tryz.prog W = .ok (.slice (some ⟨W.heap.size, 0, none⟩) q q) (W.alloc (.cells MK 68)) := fun W => by
    have := run_make (P := Tryz.prog) W 22 68 i0 (.agg #[.string ⟨#[]⟩, .string ⟨#[]⟩]) Tryz.underlying22 hi hz0 .i64 .i64 (q : Int) (q : Int) (by omega) (by omega) (by rw [hz2]; omega) (by omega)
    rw [this, hz1, show ((q : Nat) : Int).toNat = q by omega, hMK]
  have HMK := Lib.hid hMK
  clear hMK hi hz0 hz1 hz2
  go_enter Tryz.func9, Tryz.ntmps9
  go_wp2_with fail
  refine HX.out.mono ?_
  rintro e w1 ⟨rfl, c1⟩
  have C1 := Lib.hid c1
  clear c1
  go_wp2_with fail
  refine (made_any _ (l.take 20) w1 (ListAt.take (HV.out.later lasts_step C1.out) 20 M (by rw [List.length_take, ← HMM.out]; omega)) (made_opsWf _)).mono ?_
  rintro e w2 ⟨⟨bt, bf, bm, bg, be, bd, cv, rfl, hA⟩, c2⟩
  obtain ⟨w3, hw3⟩ : ∃ w3, w2.alloc (.cells #[slV bt 1, slV bf 1, slV bm 1, slV bg 2, slV be 1, .int .i64 (-1), slV bd 1] 29) = w3 := ⟨_, rfl⟩
  have k3 : Below w2.heap.size w2 w3 := by rw [← hw3]; exact (Below.refl _ _).alloc (Nat.le_refl _) _
  have hA3 := hA.later k3
  have hbox : w3.heap[w2.heap.size]? = some (.cells #[slV bt 1, slV bf 1, slV bm 1, slV bg 2, slV be 1, .int .i64 (-1), slV bd 1] 29 (0, 0)) := by rw [← hw3]; exact heap_alloc_new _ _
  have HS12 := Lib.hid c2.size
  have B3 := Lib.hid (C1.out.trans ((c2.trans (k3.mono c2.size)).mono C1.out.size))
  have HA3 := Lib.hid hA3
  have HBOX := Lib.hid hbox
  have HST := Lib.hid (made_struct (l.take 20))
  have HOK := Lib.hid (made_oks (l.take 20))
  unfold slV at hw3 hbox
  unfold madeV modV slV
  clear hA c2 k3 hA3
  go_upto_region 5 with fail
  clear hw3
  obtain ⟨q0, q1, q2, q3, q4, q5, q6⟩ := box_cells hbox
  have y0 : w3.frozen? ⟨w2.heap.size, 0, none⟩ = false := frozen_of_row _ _ _ _ _ hbox
  have y5 : w3.frozen? ⟨w2.heap.size, 5, none⟩ = false := frozen_of_row _ _ _ _ _ hbox
  have hlt2 : w2.heap.size < w3.heap.size := World.block_lt_of_cell? _ _ q0
  clear hbox
  have HW12 := Lib.hid (show w1.heap.size ≤ w2.heap.size from HS12.out)
  have HW2 := Lib.hid (Nat.le_trans C1.out.size HW12.out)
  rcases (show n < -2147483648 ∨ (-2147483648 ≤ n ∧ n < -1) ∨ n = -1 ∨ (0 ≤ n ∧ n < 2147483648) ∨ (2147483648 ≤ n ∧ n < 4294967296) ∨ 4294967296 ≤ n by omega) with hn | hn | hn | hn | hn | hn
  · have HN := Lib.hid hn
    have g1 : decide (0 ≤ n) = false := decide_eq_false (by omega)
    have g2 : decide (n < 4294967296) = true := decide_eq_true (by omega)
    clear hn
    by_cases hq4 : q ≤ 4096
    · have HQ4 := Lib.hid hq4
      have g5 : decide ((q : Int) ≤ 4096) = true := decide_eq_true (by omega)
      clear hq4
      go_wp2_with fail
      obtain ⟨w4, hw4⟩ : ∃ w4, (w3.setCell ⟨w2.heap.size, 0, none⟩ (.slice (some ⟨w3.heap.size, 0, none⟩) q q)).alloc (.cells MK 68) = w4 := ⟨_, rfl⟩
      have hz4 : (w3.setCell ⟨w2.heap.size, 0, none⟩ (.slice (some ⟨w3.heap.size, 0, none⟩) q q)).heap.size = w3.heap.size := by simp [World.setCell]
      have ha : Below w3.heap.size (w3.setCell ⟨w2.heap.size, 0, none⟩ (.slice (some ⟨w3.heap.size, 0, none⟩) q q)) w4 := by rw [← hw4]; exact (Below.refl _ _).alloc (by rw [hz4]; exact Nat.le_refl _) _
      have k4 : Below w2.heap.size w3 w4 := ((Below.refl w2.heap.size w3).setCell (p := ⟨w2.heap.size, 0, none⟩) (Nat.le_refl _) _).trans (ha.mono (Nat.le_of_lt hlt2))
      have hT : TypesAt w4 (.slice (some ⟨w3.heap.size, 0, none⟩) q q) (List.replicate q ⟨⟨#[]⟩, ⟨#[]⟩⟩) := by
        have h1 := empties_at (w3.setCell ⟨w2.heap.size, 0, none⟩ (.slice (some ⟨w3.heap.size, 0, none⟩) q q)) q (by omega)
        rw [show (#[.string ⟨#[]⟩, .string ⟨#[]⟩] : Array Value) = (.agg #[.string ⟨#[]⟩, .string ⟨#[]⟩] : Value).cells from rfl, HMK.out, hz4] at h1
        rw [← hw4]
        exact h1
      have o0 : ∀ {k : Nat} {cs : Array Value} {t : TypeId}, w3.heap[k]? = some (.cells cs t (0, 0)) → t ≠ 29 → w4.heap[k]? = some (.cells cs t (0, 0)) := fun {k cs t} hk hne => by
        have h1 := other_block hk HBOX.out hne 0 (.slice (some ⟨w3.heap.size, 0, none⟩) q q)
        exact (ha.block k (Array.getElem?_eq_some_iff.1 hk).1).trans h1
      have oc : w4.ownsRow w1.heap.size 40 4 cv (madeP (l.take 20)).code.length (codeV (madeP (l.take 20)).code) := by
        have h1 := other_row HA3.out.hc HBOX.out (by decide) 0 (.slice (some ⟨w3.heap.size, 0, none⟩) q q)
        exact ownsRow_below h1 (by rw [hz4]; exact ha)
      have k5 : Below w.heap.size w w4 := B3.out.trans (k4.mono HW2.out)
      rw [hw4]
      clear hw4
      refine (right_call (HE.out.later k5) (parts_mod (ix := 0) (i0 := 5) (i1 := -5) (mx := 2) hT (o0 HA3.out.hf (by decide)) (o0 HA3.out.hm (by decide)) (o0 HA3.out.hg (by decide)) (o0 HA3.out.he (by decide)) (o0 HA3.out.hd (by decide)) oc HA3.out.wf HA3.out.room) HST.out HOK.out (r := true) (by rw [empties_right, decide_eq_true HQ4.out]; kernel_rfl)).mono ?_
      rintro e w5 ⟨rfl, c5⟩
      have K5 := Lib.hid (k5.trans (c5.mono k5.size))
      clear c5 k5 k4 hT oc
      go_wp2_with fail
      go_ret
      exact ⟨rfl, K5.out⟩
    · have HQ4 := Lib.hid hq4
      have g5 : decide ((q : Int) ≤ 4096) = false := decide_eq_false (by omega)
      clear hq4
      go_wp2_with fail
      obtain ⟨w4, hw4⟩ : ∃ w4, (w3.setCell ⟨w2.heap.size, 0, none⟩ (.slice (some ⟨w3.heap.size, 0, none⟩) q q)).alloc (.cells MK 68) = w4 := ⟨_, rfl⟩
      have hz4 : (w3.setCell ⟨w2.heap.size, 0, none⟩ (.slice (some ⟨w3.heap.size, 0, none⟩) q q)).heap.size = w3.heap.size := by simp [World.setCell]
      have ha : Below w3.heap.size (w3.setCell ⟨w2.heap.size, 0, none⟩ (.slice (some ⟨w3.heap.size, 0, none⟩) q q)) w4 := by rw [← hw4]; exact (Below.refl _ _).alloc (by rw [hz4]; exact Nat.le_refl _) _
      have k4 : Below w2.heap.size w3 w4 := ((Below.refl w2.heap.size w3).setCell (p := ⟨w2.heap.size, 0, none⟩) (Nat.le_refl _) _).trans (ha.mono (Nat.le_of_lt hlt2))
      have hT : TypesAt w4 (.slice (some ⟨w3.heap.size, 0, none⟩) q q) (List.replicate q ⟨⟨#[]⟩, ⟨#[]⟩⟩) := by
        have h1 := empties_at (w3.setCell ⟨w2.heap.size, 0, none⟩ (.slice (some ⟨w3.heap.size, 0, none⟩) q q)) q (by omega)
        rw [show (#[.string ⟨#[]⟩, .string ⟨#[]⟩] : Array Value) = (.agg #[.string ⟨#[]⟩, .string ⟨#[]⟩] : Value).cells from rfl, HMK.out, hz4] at h1
        rw [← hw4]
        exact h1
      have o0 : ∀ {k : Nat} {cs : Array Value} {t : TypeId}, w3.heap[k]? = some (.cells cs t (0, 0)) → t ≠ 29 → w4.heap[k]? = some (.cells cs t (0, 0)) := fun {k cs t} hk hne => by
        have h1 := other_block hk HBOX.out hne 0 (.slice (some ⟨w3.heap.size, 0, none⟩) q q)
        exact (ha.block k (Array.getElem?_eq_some_iff.1 hk).1).trans h1
      have oc : w4.ownsRow w1.heap.size 40 4 cv (madeP (l.take 20)).code.length (codeV (madeP (l.take 20)).code) := by
        have h1 := other_row HA3.out.hc HBOX.out (by decide) 0 (.slice (some ⟨w3.heap.size, 0, none⟩) q q)
        exact ownsRow_below h1 (by rw [hz4]; exact ha)
      have k5 : Below w.heap.size w w4 := B3.out.trans (k4.mono HW2.out)
      rw [hw4]
      clear hw4
      refine (right_call (HE.out.later k5) (parts_mod (ix := 0) (i0 := 5) (i1 := -5) (mx := 2) hT (o0 HA3.out.hf (by decide)) (o0 HA3.out.hm (by decide)) (o0 HA3.out.hg (by decide)) (o0 HA3.out.he (by decide)) (o0 HA3.out.hd (by decide)) oc HA3.out.wf HA3.out.room) HST.out HOK.out (r := false) (by rw [empties_right, decide_eq_false HQ4.out]; kernel_rfl)).mono ?_
      rintro e w5 ⟨rfl, c5⟩
      have K5 := Lib.hid (k5.trans (c5.mono k5.size))
      clear c5 k5 k4 hT oc
      go_wp2_with fail
      go_ret
      exact ⟨rfl, K5.out⟩
  · have HN := Lib.hid hn
    have g1 : decide (0 ≤ n) = false := decide_eq_false (by omega)
    have g2 : decide (n < 4294967296) = true := decide_eq_true (by omega)
    clear hn
    by_cases hq4 : q ≤ 4096
    · have HQ4 := Lib.hid hq4
      have g5 : decide ((q : Int) ≤ 4096) = true := decide_eq_true (by omega)
      clear hq4
      go_wp2_with fail
      obtain ⟨w4, hw4⟩ : ∃ w4, (w3.setCell ⟨w2.heap.size, 0, none⟩ (.slice (some ⟨w3.heap.size, 0, none⟩) q q)).alloc (.cells MK 68) = w4 := ⟨_, rfl⟩
      have hz4 : (w3.setCell ⟨w2.heap.size, 0, none⟩ (.slice (some ⟨w3.heap.size, 0, none⟩) q q)).heap.size = w3.heap.size := by simp [World.setCell]
      have ha : Below w3.heap.size (w3.setCell ⟨w2.heap.size, 0, none⟩ (.slice (some ⟨w3.heap.size, 0, none⟩) q q)) w4 := by rw [← hw4]; exact (Below.refl _ _).alloc (by rw [hz4]; exact Nat.le_refl _) _
      have k4 : Below w2.heap.size w3 w4 := ((Below.refl w2.heap.size w3).setCell (p := ⟨w2.heap.size, 0, none⟩) (Nat.le_refl _) _).trans (ha.mono (Nat.le_of_lt hlt2))
      have hT : TypesAt w4 (.slice (some ⟨w3.heap.size, 0, none⟩) q q) (List.replicate q ⟨⟨#[]⟩, ⟨#[]⟩⟩) := by
        have h1 := empties_at (w3.setCell ⟨w2.heap.size, 0, none⟩ (.slice (some ⟨w3.heap.size, 0, none⟩) q q)) q (by omega)
        rw [show (#[.string ⟨#[]⟩, .string ⟨#[]⟩] : Array Value) = (.agg #[.string ⟨#[]⟩, .string ⟨#[]⟩] : Value).cells from rfl, HMK.out, hz4] at h1
        rw [← hw4]
        exact h1
      have o0 : ∀ {k : Nat} {cs : Array Value} {t : TypeId}, w3.heap[k]? = some (.cells cs t (0, 0)) → t ≠ 29 → w4.heap[k]? = some (.cells cs t (0, 0)) := fun {k cs t} hk hne => by
        have h1 := other_block hk HBOX.out hne 0 (.slice (some ⟨w3.heap.size, 0, none⟩) q q)
        exact (ha.block k (Array.getElem?_eq_some_iff.1 hk).1).trans h1
      have oc : w4.ownsRow w1.heap.size 40 4 cv (madeP (l.take 20)).code.length (codeV (madeP (l.take 20)).code) := by
        have h1 := other_row HA3.out.hc HBOX.out (by decide) 0 (.slice (some ⟨w3.heap.size, 0, none⟩) q q)
        exact ownsRow_below h1 (by rw [hz4]; exact ha)
      have k5 : Below w.heap.size w w4 := B3.out.trans (k4.mono HW2.out)
      rw [hw4]
      clear hw4
      refine (right_call (HE.out.later k5) (parts_mod (ix := 0) (i0 := 5) (i1 := -5) (mx := 2) hT (o0 HA3.out.hf (by decide)) (o0 HA3.out.hm (by decide)) (o0 HA3.out.hg (by decide)) (o0 HA3.out.he (by decide)) (o0 HA3.out.hd (by decide)) oc HA3.out.wf HA3.out.room) HST.out HOK.out (r := true) (by rw [empties_right, decide_eq_true HQ4.out]; kernel_rfl)).mono ?_
      rintro e w5 ⟨rfl, c5⟩
      have K5 := Lib.hid (k5.trans (c5.mono k5.size))
      clear c5 k5 k4 hT oc
      go_wp2_with fail
      go_ret
      exact ⟨rfl, K5.out⟩
    · have HQ4 := Lib.hid hq4
      have g5 : decide ((q : Int) ≤ 4096) = false := decide_eq_false (by omega)
      clear hq4
      go_wp2_with fail
      obtain ⟨w4, hw4⟩ : ∃ w4, (w3.setCell ⟨w2.heap.size, 0, none⟩ (.slice (some ⟨w3.heap.size, 0, none⟩) q q)).alloc (.cells MK 68) = w4 := ⟨_, rfl⟩
      have hz4 : (w3.setCell ⟨w2.heap.size, 0, none⟩ (.slice (some ⟨w3.heap.size, 0, none⟩) q q)).heap.size = w3.heap.size := by simp [World.setCell]
      have ha : Below w3.heap.size (w3.setCell ⟨w2.heap.size, 0, none⟩ (.slice (some ⟨w3.heap.size, 0, none⟩) q q)) w4 := by rw [← hw4]; exact (Below.refl _ _).alloc (by rw [hz4]; exact Nat.le_refl _) _
      have k4 : Below w2.heap.size w3 w4 := ((Below.refl w2.heap.size w3).setCell (p := ⟨w2.heap.size, 0, none⟩) (Nat.le_refl _) _).trans (ha.mono (Nat.le_of_lt hlt2))
      have hT : TypesAt w4 (.slice (some ⟨w3.heap.size, 0, none⟩) q q) (List.replicate q ⟨⟨#[]⟩, ⟨#[]⟩⟩) := by
        have h1 := empties_at (w3.setCell ⟨w2.heap.size, 0, none⟩ (.slice (some ⟨w3.heap.size, 0, none⟩) q q)) q (by omega)
        rw [show (#[.string ⟨#[]⟩, .string ⟨#[]⟩] : Array Value) = (.agg #[.string ⟨#[]⟩, .string ⟨#[]⟩] : Value).cells from rfl, HMK.out, hz4] at h1
        rw [← hw4]
        exact h1
      have o0 : ∀ {k : Nat} {cs : Array Value} {t : TypeId}, w3.heap[k]? = some (.cells cs t (0, 0)) → t ≠ 29 → w4.heap[k]? = some (.cells cs t (0, 0)) := fun {k cs t} hk hne => by
        have h1 := other_block hk HBOX.out hne 0 (.slice (some ⟨w3.heap.size, 0, none⟩) q q)
        exact (ha.block k (Array.getElem?_eq_some_iff.1 hk).1).trans h1
      have oc : w4.ownsRow w1.heap.size 40 4 cv (madeP (l.take 20)).code.length (codeV (madeP (l.take 20)).code) := by
        have h1 := other_row HA3.out.hc HBOX.out (by decide) 0 (.slice (some ⟨w3.heap.size, 0, none⟩) q q)
        exact ownsRow_below h1 (by rw [hz4]; exact ha)
      have k5 : Below w.heap.size w w4 := B3.out.trans (k4.mono HW2.out)
      rw [hw4]
      clear hw4
      refine (right_call (HE.out.later k5) (parts_mod (ix := 0) (i0 := 5) (i1 := -5) (mx := 2) hT (o0 HA3.out.hf (by decide)) (o0 HA3.out.hm (by decide)) (o0 HA3.out.hg (by decide)) (o0 HA3.out.he (by decide)) (o0 HA3.out.hd (by decide)) oc HA3.out.wf HA3.out.room) HST.out HOK.out (r := false) (by rw [empties_right, decide_eq_false HQ4.out]; kernel_rfl)).mono ?_
      rintro e w5 ⟨rfl, c5⟩
      have K5 := Lib.hid (k5.trans (c5.mono k5.size))
      clear c5 k5 k4 hT oc
      go_wp2_with fail
      go_ret
      exact ⟨rfl, K5.out⟩
  · have HN := Lib.hid hn
    have g1 : decide (0 ≤ n) = false := decide_eq_false (by omega)
    have g2 : decide (n < 4294967296) = true := decide_eq_true (by omega)
    clear hn
    by_cases hq4 : q ≤ 4096
    · have HQ4 := Lib.hid hq4
      have g5 : decide ((q : Int) ≤ 4096) = true := decide_eq_true (by omega)
      clear hq4
      go_wp2_with fail
      obtain ⟨w4, hw4⟩ : ∃ w4, (w3.setCell ⟨w2.heap.size, 0, none⟩ (.slice (some ⟨w3.heap.size, 0, none⟩) q q)).alloc (.cells MK 68) = w4 := ⟨_, rfl⟩
      have hz4 : (w3.setCell ⟨w2.heap.size, 0, none⟩ (.slice (some ⟨w3.heap.size, 0, none⟩) q q)).heap.size = w3.heap.size := by simp [World.setCell]
      have ha : Below w3.heap.size (w3.setCell ⟨w2.heap.size, 0, none⟩ (.slice (some ⟨w3.heap.size, 0, none⟩) q q)) w4 := by rw [← hw4]; exact (Below.refl _ _).alloc (by rw [hz4]; exact Nat.le_refl _) _
      have k4 : Below w2.heap.size w3 w4 := ((Below.refl w2.heap.size w3).setCell (p := ⟨w2.heap.size, 0, none⟩) (Nat.le_refl _) _).trans (ha.mono (Nat.le_of_lt hlt2))
      have hT : TypesAt w4 (.slice (some ⟨w3.heap.size, 0, none⟩) q q) (List.replicate q ⟨⟨#[]⟩, ⟨#[]⟩⟩) := by
        have h1 := empties_at (w3.setCell ⟨w2.heap.size, 0, none⟩ (.slice (some ⟨w3.heap.size, 0, none⟩) q q)) q (by omega)
        rw [show (#[.string ⟨#[]⟩, .string ⟨#[]⟩] : Array Value) = (.agg #[.string ⟨#[]⟩, .string ⟨#[]⟩] : Value).cells from rfl, HMK.out, hz4] at h1
        rw [← hw4]
        exact h1
      have o0 : ∀ {k : Nat} {cs : Array Value} {t : TypeId}, w3.heap[k]? = some (.cells cs t (0, 0)) → t ≠ 29 → w4.heap[k]? = some (.cells cs t (0, 0)) := fun {k cs t} hk hne => by
        have h1 := other_block hk HBOX.out hne 0 (.slice (some ⟨w3.heap.size, 0, none⟩) q q)
        exact (ha.block k (Array.getElem?_eq_some_iff.1 hk).1).trans h1
      have oc : w4.ownsRow w1.heap.size 40 4 cv (madeP (l.take 20)).code.length (codeV (madeP (l.take 20)).code) := by
        have h1 := other_row HA3.out.hc HBOX.out (by decide) 0 (.slice (some ⟨w3.heap.size, 0, none⟩) q q)
        exact ownsRow_below h1 (by rw [hz4]; exact ha)
      have k5 : Below w.heap.size w w4 := B3.out.trans (k4.mono HW2.out)
      rw [hw4]
      clear hw4
      refine (right_call (HE.out.later k5) (parts_mod (ix := 0) (i0 := 5) (i1 := -5) (mx := 2) hT (o0 HA3.out.hf (by decide)) (o0 HA3.out.hm (by decide)) (o0 HA3.out.hg (by decide)) (o0 HA3.out.he (by decide)) (o0 HA3.out.hd (by decide)) oc HA3.out.wf HA3.out.room) HST.out HOK.out (r := true) (by rw [empties_right, decide_eq_true HQ4.out]; kernel_rfl)).mono ?_
      rintro e w5 ⟨rfl, c5⟩
      have K5 := Lib.hid (k5.trans (c5.mono k5.size))
      clear c5 k5 k4 hT oc
      go_wp2_with fail
      go_ret
      exact ⟨rfl, K5.out⟩
    · have HQ4 := Lib.hid hq4
      have g5 : decide ((q : Int) ≤ 4096) = false := decide_eq_false (by omega)
      clear hq4
      go_wp2_with fail
      obtain ⟨w4, hw4⟩ : ∃ w4, (w3.setCell ⟨w2.heap.size, 0, none⟩ (.slice (some ⟨w3.heap.size, 0, none⟩) q q)).alloc (.cells MK 68) = w4 := ⟨_, rfl⟩
      have hz4 : (w3.setCell ⟨w2.heap.size, 0, none⟩ (.slice (some ⟨w3.heap.size, 0, none⟩) q q)).heap.size = w3.heap.size := by simp [World.setCell]
      have ha : Below w3.heap.size (w3.setCell ⟨w2.heap.size, 0, none⟩ (.slice (some ⟨w3.heap.size, 0, none⟩) q q)) w4 := by rw [← hw4]; exact (Below.refl _ _).alloc (by rw [hz4]; exact Nat.le_refl _) _
      have k4 : Below w2.heap.size w3 w4 := ((Below.refl w2.heap.size w3).setCell (p := ⟨w2.heap.size, 0, none⟩) (Nat.le_refl _) _).trans (ha.mono (Nat.le_of_lt hlt2))
      have hT : TypesAt w4 (.slice (some ⟨w3.heap.size, 0, none⟩) q q) (List.replicate q ⟨⟨#[]⟩, ⟨#[]⟩⟩) := by
        have h1 := empties_at (w3.setCell ⟨w2.heap.size, 0, none⟩ (.slice (some ⟨w3.heap.size, 0, none⟩) q q)) q (by omega)
        rw [show (#[.string ⟨#[]⟩, .string ⟨#[]⟩] : Array Value) = (.agg #[.string ⟨#[]⟩, .string ⟨#[]⟩] : Value).cells from rfl, HMK.out, hz4] at h1
        rw [← hw4]
        exact h1
      have o0 : ∀ {k : Nat} {cs : Array Value} {t : TypeId}, w3.heap[k]? = some (.cells cs t (0, 0)) → t ≠ 29 → w4.heap[k]? = some (.cells cs t (0, 0)) := fun {k cs t} hk hne => by
        have h1 := other_block hk HBOX.out hne 0 (.slice (some ⟨w3.heap.size, 0, none⟩) q q)
        exact (ha.block k (Array.getElem?_eq_some_iff.1 hk).1).trans h1
      have oc : w4.ownsRow w1.heap.size 40 4 cv (madeP (l.take 20)).code.length (codeV (madeP (l.take 20)).code) := by
        have h1 := other_row HA3.out.hc HBOX.out (by decide) 0 (.slice (some ⟨w3.heap.size, 0, none⟩) q q)
        exact ownsRow_below h1 (by rw [hz4]; exact ha)
      have k5 : Below w.heap.size w w4 := B3.out.trans (k4.mono HW2.out)
      rw [hw4]
      clear hw4
      refine (right_call (HE.out.later k5) (parts_mod (ix := 0) (i0 := 5) (i1 := -5) (mx := 2) hT (o0 HA3.out.hf (by decide)) (o0 HA3.out.hm (by decide)) (o0 HA3.out.hg (by decide)) (o0 HA3.out.he (by decide)) (o0 HA3.out.hd (by decide)) oc HA3.out.wf HA3.out.room) HST.out HOK.out (r := false) (by rw [empties_right, decide_eq_false HQ4.out]; kernel_rfl)).mono ?_
      rintro e w5 ⟨rfl, c5⟩
      have K5 := Lib.hid (k5.trans (c5.mono k5.size))
      clear c5 k5 k4 hT oc
      go_wp2_with fail
      go_ret
      exact ⟨rfl, K5.out⟩
  · have HN := Lib.hid hn
    have g1 : decide (0 ≤ n) = true := decide_eq_true (by omega)
    have g2 : decide (n < 4294967296) = true := decide_eq_true (by omega)
    clear hn
    by_cases hq4 : q ≤ 4096
    · have HQ4 := Lib.hid hq4
      have g5 : decide ((q : Int) ≤ 4096) = true := decide_eq_true (by omega)
      clear hq4
      go_wp2_with fail
      obtain ⟨w4, hw4⟩ : ∃ w4, (w3.setCell ⟨w2.heap.size, 0, none⟩ (.slice (some ⟨w3.heap.size, 0, none⟩) q q)).alloc (.cells MK 68) = w4 := ⟨_, rfl⟩
      have hz4 : (w3.setCell ⟨w2.heap.size, 0, none⟩ (.slice (some ⟨w3.heap.size, 0, none⟩) q q)).heap.size = w3.heap.size := by simp [World.setCell]
      have ha : Below w3.heap.size (w3.setCell ⟨w2.heap.size, 0, none⟩ (.slice (some ⟨w3.heap.size, 0, none⟩) q q)) w4 := by rw [← hw4]; exact (Below.refl _ _).alloc (by rw [hz4]; exact Nat.le_refl _) _
      have k4 : Below w2.heap.size w3 w4 := ((Below.refl w2.heap.size w3).setCell (p := ⟨w2.heap.size, 0, none⟩) (Nat.le_refl _) _).trans (ha.mono (Nat.le_of_lt hlt2))
      have hT : TypesAt w4 (.slice (some ⟨w3.heap.size, 0, none⟩) q q) (List.replicate q ⟨⟨#[]⟩, ⟨#[]⟩⟩) := by
        have h1 := empties_at (w3.setCell ⟨w2.heap.size, 0, none⟩ (.slice (some ⟨w3.heap.size, 0, none⟩) q q)) q (by omega)
        rw [show (#[.string ⟨#[]⟩, .string ⟨#[]⟩] : Array Value) = (.agg #[.string ⟨#[]⟩, .string ⟨#[]⟩] : Value).cells from rfl, HMK.out, hz4] at h1
        rw [← hw4]
        exact h1
      have o0 : ∀ {k : Nat} {cs : Array Value} {t : TypeId}, w3.heap[k]? = some (.cells cs t (0, 0)) → t ≠ 29 → w4.heap[k]? = some (.cells cs t (0, 0)) := fun {k cs t} hk hne => by
        have h1 := other_block hk HBOX.out hne 0 (.slice (some ⟨w3.heap.size, 0, none⟩) q q)
        exact (ha.block k (Array.getElem?_eq_some_iff.1 hk).1).trans h1
      have oc : w4.ownsRow w1.heap.size 40 4 cv (madeP (l.take 20)).code.length (codeV (madeP (l.take 20)).code) := by
        have h1 := other_row HA3.out.hc HBOX.out (by decide) 0 (.slice (some ⟨w3.heap.size, 0, none⟩) q q)
        exact ownsRow_below h1 (by rw [hz4]; exact ha)
      have k5 : Below w.heap.size w w4 := B3.out.trans (k4.mono HW2.out)
      rw [hw4]
      clear hw4
      refine (right_call (HE.out.later k5) (parts_mod (ix := 0) (i0 := 5) (i1 := -5) (mx := 2) hT (o0 HA3.out.hf (by decide)) (o0 HA3.out.hm (by decide)) (o0 HA3.out.hg (by decide)) (o0 HA3.out.he (by decide)) (o0 HA3.out.hd (by decide)) oc HA3.out.wf HA3.out.room) HST.out HOK.out (r := true) (by rw [empties_right, decide_eq_true HQ4.out]; kernel_rfl)).mono ?_
      rintro e w5 ⟨rfl, c5⟩
      have K5 := Lib.hid (k5.trans (c5.mono k5.size))
      clear c5 k5 k4 hT oc
      go_wp2_with fail
      go_ret
      exact ⟨rfl, K5.out⟩
    · have HQ4 := Lib.hid hq4
      have g5 : decide ((q : Int) ≤ 4096) = false := decide_eq_false (by omega)
      clear hq4
      go_wp2_with fail
      obtain ⟨w4, hw4⟩ : ∃ w4, (w3.setCell ⟨w2.heap.size, 0, none⟩ (.slice (some ⟨w3.heap.size, 0, none⟩) q q)).alloc (.cells MK 68) = w4 := ⟨_, rfl⟩
      have hz4 : (w3.setCell ⟨w2.heap.size, 0, none⟩ (.slice (some ⟨w3.heap.size, 0, none⟩) q q)).heap.size = w3.heap.size := by simp [World.setCell]
      have ha : Below w3.heap.size (w3.setCell ⟨w2.heap.size, 0, none⟩ (.slice (some ⟨w3.heap.size, 0, none⟩) q q)) w4 := by rw [← hw4]; exact (Below.refl _ _).alloc (by rw [hz4]; exact Nat.le_refl _) _
      have k4 : Below w2.heap.size w3 w4 := ((Below.refl w2.heap.size w3).setCell (p := ⟨w2.heap.size, 0, none⟩) (Nat.le_refl _) _).trans (ha.mono (Nat.le_of_lt hlt2))
      have hT : TypesAt w4 (.slice (some ⟨w3.heap.size, 0, none⟩) q q) (List.replicate q ⟨⟨#[]⟩, ⟨#[]⟩⟩) := by
        have h1 := empties_at (w3.setCell ⟨w2.heap.size, 0, none⟩ (.slice (some ⟨w3.heap.size, 0, none⟩) q q)) q (by omega)
        rw [show (#[.string ⟨#[]⟩, .string ⟨#[]⟩] : Array Value) = (.agg #[.string ⟨#[]⟩, .string ⟨#[]⟩] : Value).cells from rfl, HMK.out, hz4] at h1
        rw [← hw4]
        exact h1
      have o0 : ∀ {k : Nat} {cs : Array Value} {t : TypeId}, w3.heap[k]? = some (.cells cs t (0, 0)) → t ≠ 29 → w4.heap[k]? = some (.cells cs t (0, 0)) := fun {k cs t} hk hne => by
        have h1 := other_block hk HBOX.out hne 0 (.slice (some ⟨w3.heap.size, 0, none⟩) q q)
        exact (ha.block k (Array.getElem?_eq_some_iff.1 hk).1).trans h1
      have oc : w4.ownsRow w1.heap.size 40 4 cv (madeP (l.take 20)).code.length (codeV (madeP (l.take 20)).code) := by
        have h1 := other_row HA3.out.hc HBOX.out (by decide) 0 (.slice (some ⟨w3.heap.size, 0, none⟩) q q)
        exact ownsRow_below h1 (by rw [hz4]; exact ha)
      have k5 : Below w.heap.size w w4 := B3.out.trans (k4.mono HW2.out)
      rw [hw4]
      clear hw4
      refine (right_call (HE.out.later k5) (parts_mod (ix := 0) (i0 := 5) (i1 := -5) (mx := 2) hT (o0 HA3.out.hf (by decide)) (o0 HA3.out.hm (by decide)) (o0 HA3.out.hg (by decide)) (o0 HA3.out.he (by decide)) (o0 HA3.out.hd (by decide)) oc HA3.out.wf HA3.out.room) HST.out HOK.out (r := false) (by rw [empties_right, decide_eq_false HQ4.out]; kernel_rfl)).mono ?_
      rintro e w5 ⟨rfl, c5⟩
      have K5 := Lib.hid (k5.trans (c5.mono k5.size))
      clear c5 k5 k4 hT oc
      go_wp2_with fail
      go_ret
      exact ⟨rfl, K5.out⟩
  · have HN := Lib.hid hn
    have g1 : decide (0 ≤ n) = true := decide_eq_true (by omega)
    have g2 : decide (n < 4294967296) = true := decide_eq_true (by omega)
    clear hn
    by_cases hq4 : q ≤ 4096
    · have HQ4 := Lib.hid hq4
      have g5 : decide ((q : Int) ≤ 4096) = true := decide_eq_true (by omega)
      clear hq4
      go_wp2_with fail
      obtain ⟨w4, hw4⟩ : ∃ w4, (w3.setCell ⟨w2.heap.size, 0, none⟩ (.slice (some ⟨w3.heap.size, 0, none⟩) q q)).alloc (.cells MK 68) = w4 := ⟨_, rfl⟩
      have hz4 : (w3.setCell ⟨w2.heap.size, 0, none⟩ (.slice (some ⟨w3.heap.size, 0, none⟩) q q)).heap.size = w3.heap.size := by simp [World.setCell]
      have ha : Below w3.heap.size (w3.setCell ⟨w2.heap.size, 0, none⟩ (.slice (some ⟨w3.heap.size, 0, none⟩) q q)) w4 := by rw [← hw4]; exact (Below.refl _ _).alloc (by rw [hz4]; exact Nat.le_refl _) _
      have k4 : Below w2.heap.size w3 w4 := ((Below.refl w2.heap.size w3).setCell (p := ⟨w2.heap.size, 0, none⟩) (Nat.le_refl _) _).trans (ha.mono (Nat.le_of_lt hlt2))
      have hT : TypesAt w4 (.slice (some ⟨w3.heap.size, 0, none⟩) q q) (List.replicate q ⟨⟨#[]⟩, ⟨#[]⟩⟩) := by
        have h1 := empties_at (w3.setCell ⟨w2.heap.size, 0, none⟩ (.slice (some ⟨w3.heap.size, 0, none⟩) q q)) q (by omega)
        rw [show (#[.string ⟨#[]⟩, .string ⟨#[]⟩] : Array Value) = (.agg #[.string ⟨#[]⟩, .string ⟨#[]⟩] : Value).cells from rfl, HMK.out, hz4] at h1
        rw [← hw4]
        exact h1
      have o0 : ∀ {k : Nat} {cs : Array Value} {t : TypeId}, w3.heap[k]? = some (.cells cs t (0, 0)) → t ≠ 29 → w4.heap[k]? = some (.cells cs t (0, 0)) := fun {k cs t} hk hne => by
        have h1 := other_block hk HBOX.out hne 0 (.slice (some ⟨w3.heap.size, 0, none⟩) q q)
        exact (ha.block k (Array.getElem?_eq_some_iff.1 hk).1).trans h1
      have oc : w4.ownsRow w1.heap.size 40 4 cv (madeP (l.take 20)).code.length (codeV (madeP (l.take 20)).code) := by
        have h1 := other_row HA3.out.hc HBOX.out (by decide) 0 (.slice (some ⟨w3.heap.size, 0, none⟩) q q)
        exact ownsRow_below h1 (by rw [hz4]; exact ha)
      have k5 : Below w.heap.size w w4 := B3.out.trans (k4.mono HW2.out)
      rw [hw4]
      clear hw4
      refine (right_call (HE.out.later k5) (parts_mod (ix := 0) (i0 := 5) (i1 := -5) (mx := 2) hT (o0 HA3.out.hf (by decide)) (o0 HA3.out.hm (by decide)) (o0 HA3.out.hg (by decide)) (o0 HA3.out.he (by decide)) (o0 HA3.out.hd (by decide)) oc HA3.out.wf HA3.out.room) HST.out HOK.out (r := true) (by rw [empties_right, decide_eq_true HQ4.out]; kernel_rfl)).mono ?_
      rintro e w5 ⟨rfl, c5⟩
      have K5 := Lib.hid (k5.trans (c5.mono k5.size))
      clear c5 k5 k4 hT oc
      go_wp2_with fail
      go_ret
      exact ⟨rfl, K5.out⟩
    · have HQ4 := Lib.hid hq4
      have g5 : decide ((q : Int) ≤ 4096) = false := decide_eq_false (by omega)
      clear hq4
      go_wp2_with fail
      obtain ⟨w4, hw4⟩ : ∃ w4, (w3.setCell ⟨w2.heap.size, 0, none⟩ (.slice (some ⟨w3.heap.size, 0, none⟩) q q)).alloc (.cells MK 68) = w4 := ⟨_, rfl⟩
      have hz4 : (w3.setCell ⟨w2.heap.size, 0, none⟩ (.slice (some ⟨w3.heap.size, 0, none⟩) q q)).heap.size = w3.heap.size := by simp [World.setCell]
      have ha : Below w3.heap.size (w3.setCell ⟨w2.heap.size, 0, none⟩ (.slice (some ⟨w3.heap.size, 0, none⟩) q q)) w4 := by rw [← hw4]; exact (Below.refl _ _).alloc (by rw [hz4]; exact Nat.le_refl _) _
      have k4 : Below w2.heap.size w3 w4 := ((Below.refl w2.heap.size w3).setCell (p := ⟨w2.heap.size, 0, none⟩) (Nat.le_refl _) _).trans (ha.mono (Nat.le_of_lt hlt2))
      have hT : TypesAt w4 (.slice (some ⟨w3.heap.size, 0, none⟩) q q) (List.replicate q ⟨⟨#[]⟩, ⟨#[]⟩⟩) := by
        have h1 := empties_at (w3.setCell ⟨w2.heap.size, 0, none⟩ (.slice (some ⟨w3.heap.size, 0, none⟩) q q)) q (by omega)
        rw [show (#[.string ⟨#[]⟩, .string ⟨#[]⟩] : Array Value) = (.agg #[.string ⟨#[]⟩, .string ⟨#[]⟩] : Value).cells from rfl, HMK.out, hz4] at h1
        rw [← hw4]
        exact h1
      have o0 : ∀ {k : Nat} {cs : Array Value} {t : TypeId}, w3.heap[k]? = some (.cells cs t (0, 0)) → t ≠ 29 → w4.heap[k]? = some (.cells cs t (0, 0)) := fun {k cs t} hk hne => by
        have h1 := other_block hk HBOX.out hne 0 (.slice (some ⟨w3.heap.size, 0, none⟩) q q)
        exact (ha.block k (Array.getElem?_eq_some_iff.1 hk).1).trans h1
      have oc : w4.ownsRow w1.heap.size 40 4 cv (madeP (l.take 20)).code.length (codeV (madeP (l.take 20)).code) := by
        have h1 := other_row HA3.out.hc HBOX.out (by decide) 0 (.slice (some ⟨w3.heap.size, 0, none⟩) q q)
        exact ownsRow_below h1 (by rw [hz4]; exact ha)
      have k5 : Below w.heap.size w w4 := B3.out.trans (k4.mono HW2.out)
      rw [hw4]
      clear hw4
      refine (right_call (HE.out.later k5) (parts_mod (ix := 0) (i0 := 5) (i1 := -5) (mx := 2) hT (o0 HA3.out.hf (by decide)) (o0 HA3.out.hm (by decide)) (o0 HA3.out.hg (by decide)) (o0 HA3.out.he (by decide)) (o0 HA3.out.hd (by decide)) oc HA3.out.wf HA3.out.room) HST.out HOK.out (r := false) (by rw [empties_right, decide_eq_false HQ4.out]; kernel_rfl)).mono ?_
      rintro e w5 ⟨rfl, c5⟩
      have K5 := Lib.hid (k5.trans (c5.mono k5.size))
      clear c5 k5 k4 hT oc
      go_wp2_with fail
      go_ret
      exact ⟨rfl, K5.out⟩
  · have HN := Lib.hid hn
    have g1 : decide (0 ≤ n) = true := decide_eq_true (by omega)
    have g2 : decide (n < 4294967296) = false := decide_eq_false (by omega)
    clear hn
    by_cases hq4 : q ≤ 4096
    · have HQ4 := Lib.hid hq4
      have g5 : decide ((q : Int) ≤ 4096) = true := decide_eq_true (by omega)
      clear hq4
      go_wp2_with fail
      obtain ⟨w4, hw4⟩ : ∃ w4, (w3.setCell ⟨w2.heap.size, 0, none⟩ (.slice (some ⟨w3.heap.size, 0, none⟩) q q)).alloc (.cells MK 68) = w4 := ⟨_, rfl⟩
      have hz4 : (w3.setCell ⟨w2.heap.size, 0, none⟩ (.slice (some ⟨w3.heap.size, 0, none⟩) q q)).heap.size = w3.heap.size := by simp [World.setCell]
      have ha : Below w3.heap.size (w3.setCell ⟨w2.heap.size, 0, none⟩ (.slice (some ⟨w3.heap.size, 0, none⟩) q q)) w4 := by rw [← hw4]; exact (Below.refl _ _).alloc (by rw [hz4]; exact Nat.le_refl _) _
      have k4 : Below w2.heap.size w3 w4 := ((Below.refl w2.heap.size w3).setCell (p := ⟨w2.heap.size, 0, none⟩) (Nat.le_refl _) _).trans (ha.mono (Nat.le_of_lt hlt2))
      have hT : TypesAt w4 (.slice (some ⟨w3.heap.size, 0, none⟩) q q) (List.replicate q ⟨⟨#[]⟩, ⟨#[]⟩⟩) := by
        have h1 := empties_at (w3.setCell ⟨w2.heap.size, 0, none⟩ (.slice (some ⟨w3.heap.size, 0, none⟩) q q)) q (by omega)
        rw [show (#[.string ⟨#[]⟩, .string ⟨#[]⟩] : Array Value) = (.agg #[.string ⟨#[]⟩, .string ⟨#[]⟩] : Value).cells from rfl, HMK.out, hz4] at h1
        rw [← hw4]
        exact h1
      have o0 : ∀ {k : Nat} {cs : Array Value} {t : TypeId}, w3.heap[k]? = some (.cells cs t (0, 0)) → t ≠ 29 → w4.heap[k]? = some (.cells cs t (0, 0)) := fun {k cs t} hk hne => by
        have h1 := other_block hk HBOX.out hne 0 (.slice (some ⟨w3.heap.size, 0, none⟩) q q)
        exact (ha.block k (Array.getElem?_eq_some_iff.1 hk).1).trans h1
      have oc : w4.ownsRow w1.heap.size 40 4 cv (madeP (l.take 20)).code.length (codeV (madeP (l.take 20)).code) := by
        have h1 := other_row HA3.out.hc HBOX.out (by decide) 0 (.slice (some ⟨w3.heap.size, 0, none⟩) q q)
        exact ownsRow_below h1 (by rw [hz4]; exact ha)
      have k5 : Below w.heap.size w w4 := B3.out.trans (k4.mono HW2.out)
      rw [hw4]
      clear hw4
      refine (right_call (HE.out.later k5) (parts_mod (ix := 0) (i0 := 5) (i1 := -5) (mx := 2) hT (o0 HA3.out.hf (by decide)) (o0 HA3.out.hm (by decide)) (o0 HA3.out.hg (by decide)) (o0 HA3.out.he (by decide)) (o0 HA3.out.hd (by decide)) oc HA3.out.wf HA3.out.room) HST.out HOK.out (r := true) (by rw [empties_right, decide_eq_true HQ4.out]; kernel_rfl)).mono ?_
      rintro e w5 ⟨rfl, c5⟩
      have K5 := Lib.hid (k5.trans (c5.mono k5.size))
      clear c5 k5 k4 hT oc
      go_wp2_with fail
      go_ret
      exact ⟨rfl, K5.out⟩
    · have HQ4 := Lib.hid hq4
      have g5 : decide ((q : Int) ≤ 4096) = false := decide_eq_false (by omega)
      clear hq4
      go_wp2_with fail
      obtain ⟨w4, hw4⟩ : ∃ w4, (w3.setCell ⟨w2.heap.size, 0, none⟩ (.slice (some ⟨w3.heap.size, 0, none⟩) q q)).alloc (.cells MK 68) = w4 := ⟨_, rfl⟩
      have hz4 : (w3.setCell ⟨w2.heap.size, 0, none⟩ (.slice (some ⟨w3.heap.size, 0, none⟩) q q)).heap.size = w3.heap.size := by simp [World.setCell]
      have ha : Below w3.heap.size (w3.setCell ⟨w2.heap.size, 0, none⟩ (.slice (some ⟨w3.heap.size, 0, none⟩) q q)) w4 := by rw [← hw4]; exact (Below.refl _ _).alloc (by rw [hz4]; exact Nat.le_refl _) _
      have k4 : Below w2.heap.size w3 w4 := ((Below.refl w2.heap.size w3).setCell (p := ⟨w2.heap.size, 0, none⟩) (Nat.le_refl _) _).trans (ha.mono (Nat.le_of_lt hlt2))
      have hT : TypesAt w4 (.slice (some ⟨w3.heap.size, 0, none⟩) q q) (List.replicate q ⟨⟨#[]⟩, ⟨#[]⟩⟩) := by
        have h1 := empties_at (w3.setCell ⟨w2.heap.size, 0, none⟩ (.slice (some ⟨w3.heap.size, 0, none⟩) q q)) q (by omega)
        rw [show (#[.string ⟨#[]⟩, .string ⟨#[]⟩] : Array Value) = (.agg #[.string ⟨#[]⟩, .string ⟨#[]⟩] : Value).cells from rfl, HMK.out, hz4] at h1
        rw [← hw4]
        exact h1
      have o0 : ∀ {k : Nat} {cs : Array Value} {t : TypeId}, w3.heap[k]? = some (.cells cs t (0, 0)) → t ≠ 29 → w4.heap[k]? = some (.cells cs t (0, 0)) := fun {k cs t} hk hne => by
        have h1 := other_block hk HBOX.out hne 0 (.slice (some ⟨w3.heap.size, 0, none⟩) q q)
        exact (ha.block k (Array.getElem?_eq_some_iff.1 hk).1).trans h1
      have oc : w4.ownsRow w1.heap.size 40 4 cv (madeP (l.take 20)).code.length (codeV (madeP (l.take 20)).code) := by
        have h1 := other_row HA3.out.hc HBOX.out (by decide) 0 (.slice (some ⟨w3.heap.size, 0, none⟩) q q)
        exact ownsRow_below h1 (by rw [hz4]; exact ha)
      have k5 : Below w.heap.size w w4 := B3.out.trans (k4.mono HW2.out)
      rw [hw4]
      clear hw4
      refine (right_call (HE.out.later k5) (parts_mod (ix := 0) (i0 := 5) (i1 := -5) (mx := 2) hT (o0 HA3.out.hf (by decide)) (o0 HA3.out.hm (by decide)) (o0 HA3.out.hg (by decide)) (o0 HA3.out.he (by decide)) (o0 HA3.out.hd (by decide)) oc HA3.out.wf HA3.out.room) HST.out HOK.out (r := false) (by rw [empties_right, decide_eq_false HQ4.out]; kernel_rfl)).mono ?_
      rintro e w5 ⟨rfl, c5⟩
      have K5 := Lib.hid (k5.trans (c5.mono k5.size))
      clear c5 k5 k4 hT oc
      go_wp2_with fail
      go_ret
      exact ⟨rfl, K5.out⟩
theorem limits_walk (l : List Step) (which : Nat) (n : Int) (w : World) (hE : MEnv w) (hP : PowEnv w) (hw8 : which < 256) (hn0 : -9223372036854775808 ≤ n) (hn1 : n ≤ 9223372036854775807) (la : Option Addr) (lc : Nat) (hcap : l.length ≤ lc) (hv : StepsAt w (.slice la l.length lc) l) :
    Calls Tryz.prog 9 #[.slice la l.length lc, .int .u8 (which : Int), .int .i64 n] w fun e w' => e = .returned (.bool true) ∧ Below w.heap.size w w' := by
  rcases (show which % 6 = 0 ∨ which % 6 = 1 ∨ which % 6 = 2 ∨ which % 6 = 3 ∨ which % 6 = 4 ∨ which % 6 = 5 by omega) with h | h | h | h | h | h
  · exact limits_0 l which n w hE hP hw8 hn0 hn1 la lc hcap hv h
  · exact limits_1 l which n w hE hP hw8 hn0 hn1 la lc hcap hv h
  · exact limits_2 l which n w hE hP hw8 hn0 hn1 la lc hcap hv h
  · exact limits_3 l which n w hE hP hw8 hn0 hn1 la lc hcap hv h
  · exact limits_4 l which n w hE hP hw8 hn0 hn1 la lc hcap hv h
  · exact limits_5 l which n w hE hP hw8 hn0 hn1 la lc hcap hv h
end Go.Proofs.YthkdegmnnbepdaaGreatDoor.Mod
