/-
  The law of what is right: the walk. No condition beyond what each theorem names.
-/
import Derived.Test.YtkemaonhchklmaaGreatDoorModRefD
import Derived.Test.YtkemaonhchklmaaGreatDoorModEx
import Derived.Test.YtkemaonhchklmaaGreatDoorRegTake
namespace Go.Proofs.YtkemaonhchklmaaGreatDoor.Mod
open Go.RowKit Go.Maps Go.Proofs.YtkemaonhchklmaaGreatDoor.Op Go.Lib
set_option linter.unusedVariables false
set_option linter.unusedSimpArgs false
abbrev HeldR (w : World) (ta fa ma ga ea da : Option Addr) (tc fc mc gc ec dc : Nat) (m : ModP) (W : World) : Prop :=
  W.cell? ⟨w.heap.size, 0, none⟩ = some (.slice ta m.types.length tc) ∧ W.cell? ⟨w.heap.size, 1, none⟩ = some (.slice fa m.funcs.length fc) ∧ W.cell? ⟨w.heap.size, 2, none⟩ = some (.slice ma m.memory.length mc) ∧ W.cell? ⟨w.heap.size, 3, none⟩ = some (.slice ga m.globals.length gc) ∧ W.cell? ⟨w.heap.size, 4, none⟩ = some (.slice ea m.exports.length ec) ∧ W.cell? ⟨w.heap.size, 5, none⟩ = some (.int .i64 m.start) ∧ W.cell? ⟨w.heap.size, 6, none⟩ = some (.slice da m.data.length dc) ∧ Below w.heap.size w W
theorem heldR_later {w : World} {ta fa ma ga ea da : Option Addr} {tc fc mc gc ec dc : Nat} {m : ModP} {W W' : World} (c : Below W.heap.size W W') (h : HeldR w ta fa ma ga ea da tc fc mc gc ec dc m W) : HeldR w ta fa ma ga ea da tc fc mc gc ec dc m W' := by
  obtain ⟨h0, h1, h2, h3, h4, h5, h6, h7⟩ := h
  exact ⟨cell_later c h0, cell_later c h1, cell_later c h2, cell_later c h3, cell_later c h4, cell_later c h5, cell_later c h6, h7.trans (c.mono h7.size)⟩
theorem HeldR.below {w : World} {ta fa ma ga ea da : Option Addr} {tc fc mc gc ec dc : Nat} {m : ModP} {W : World} (h : HeldR w ta fa ma ga ea da tc fc mc gc ec dc m W) : Below w.heap.size w W := h.2.2.2.2.2.2.2
def CaW (w : World) (f : FuncId) (args : Array Value) (b : Bool) : Prop := ∀ W, Below w.heap.size w W → Calls Tryz.prog f args W fun e w' => e = .returned (.bool b) ∧ Below W.heap.size W w' 
set_option maxRecDepth 100000 in
set_option maxHeartbeats 8000000 in
theorem rights_law (t fv me g e : Value) (st : Int) (d : Value) (m : ModP) (s : ByteArray) (w : World) (hE : MEnv w) (hP : PowEnv w) (hM : ModAt w t fv me g e st d m) (hO : ModOk m) (hs : s.size ≤ 140737488351232) :
    Calls Tryz.prog 3 #[modV t fv me g e st d, .string s] w fun en w' => en = .returned (.bool true) ∧ Below w.heap.size w w' := by
  have HMA := Lib.hid hM
  obtain ⟨ta, tc, rfl, tal, tax⟩ := hM.types.form
  obtain ⟨fa, fc, rfl, fal, fax⟩ := hM.funcs.form
  obtain ⟨ma, mc, rfl, mal, max⟩ := hM.memory.form
  obtain ⟨ga, gc, rfl, gal, gax⟩ := hM.globals.form
  obtain ⟨ea, ec, rfl, eal, eax⟩ := hM.exports.form
  obtain ⟨da, dc, rfl, dal, dax⟩ := hM.data.form
  obtain rfl : st = m.start := hM.start
  have HFX := Lib.hid fax
  clear hM tax fax max gax eax dax
  have K1 := Lib.hid (show CaW w 6 #[.agg #[.slice ta m.types.length tc, .slice fa m.funcs.length fc, .slice ma m.memory.length mc, .slice ga m.globals.length gc, .slice ea m.exports.length ec, .int .i64 m.start, .slice da m.data.length dc]] (rightM m) from fun W hW => rightM_any _ _ _ _ _ _ _ m W (hE.later hW) (HMA.out.later hW))
  have K2 := Lib.hid (show CaW w 7 #[.agg #[.slice ta m.types.length tc, .slice fa m.funcs.length fc, .slice ma m.memory.length mc, .slice ga m.globals.length gc, .slice ea m.exports.length ec, .int .i64 m.start, .slice da m.data.length dc]] (rightM m) from fun W hW => rrightM_any _ _ _ _ _ _ _ m W (HMA.out.later hW) hO _ rfl)
  have K5 := Lib.hid (show CaW w 10 #[.string s] (nameB s) from fun W hW => name_any s W (hE.later hW) (by omega))
  have K6 := Lib.hid (show CaW w 11 #[.string s] (nameB s) from fun W hW => (rname_any s W (by omega) _ rfl).mono fun en w' h => ⟨h.1, by rw [← h.2]; exact Below.refl _ _⟩)
  obtain ⟨R, hR⟩ : ∃ R, rightM m = R := ⟨_, rfl⟩
  obtain ⟨N, hN⟩ : ∃ N, nameB s = N := ⟨_, rfl⟩
  rw [hR] at K1 K2
  rw [hN] at K5 K6
  have BOX := Lib.hid (show Below w.heap.size w (w.alloc (.cells #[.slice ta m.types.length tc, .slice fa m.funcs.length fc, .slice ma m.memory.length mc, .slice ga m.globals.length gc, .slice ea m.exports.length ec, .int .i64 m.start, .slice da m.data.length dc] 29)) from (Below.refl _ _).alloc (Nat.le_refl _) _)
  have hbox := heap_alloc_new w (.cells #[.slice ta m.types.length tc, .slice fa m.funcs.length fc, .slice ma m.memory.length mc, .slice ga m.globals.length gc, .slice ea m.exports.length ec, .int .i64 m.start, .slice da m.data.length dc] 29)
  have HBX := Lib.hid hbox
  have HEX := Lib.hid (examples04 _ (hE.later BOX.out) (hP.later BOX.out))
  have HO := Lib.hid hO
  clear hE hP hbox hR hN hO
  unfold modV
  go_enter Tryz.func3, Tryz.ntmps3
  go_wp2_with fail
  refine HEX.out.mono ?_
  rintro en w2 ⟨rfl, e2⟩
  have hb2 := boxm_later e2 HBX.out
  have q0 := boxm_at hb2 0 _ rfl
  have q1 := boxm_at hb2 1 _ rfl
  have q2 := boxm_at hb2 2 _ rfl
  have q3 := boxm_at hb2 3 _ rfl
  have q4 := boxm_at hb2 4 _ rfl
  have q5 := boxm_at hb2 5 _ rfl
  have q6 := boxm_at hb2 6 _ rfl
  have C2 := Lib.hid (BOX.out.trans (e2.mono BOX.out.size))
  clear e2 hb2
  have hcode : (m.funcs.length = 0) ∨ (0 < m.funcs.length) := by omega
  rcases hcode with hf | hf
  · have d1 : decide ((0 : Int) < (m.funcs.length : Int)) = false := decide_eq_false (by omega)
    have d2 : decide (0 < m.funcs.length) = false := decide_eq_false (by omega)
    clear hf
    have K3 := Lib.hid (show CaW w 8 #[.slice none 0 0] (structB [] (opsOf ([] : List InsL))) from fun W hW => struct_any ([] : List InsL) (.slice none 0 0) W (⟨[], ⟨none, 0, rfl, Nat.zero_le _, fun i r hr => by simp at hr⟩, rfl, fun i r x hr _ => by simp at hr⟩) (by decide))
    have K4 := Lib.hid (show CaW w 9 #[.slice none 0 0] (structB [] (opsOf ([] : List InsL))) from fun W hW => rstruct_any ([] : List InsL) (.slice none 0 0) W (⟨[], ⟨none, 0, rfl, Nat.zero_le _, fun i r hr => by simp at hr⟩, rfl, fun i r x hr _ => by simp at hr⟩) (by decide))
    obtain ⟨S, hS⟩ : ∃ S, structB [] (opsOf ([] : List InsL)) = S := ⟨_, rfl⟩
    rw [hS] at K3 K4
    clear hS
    go_upto_region 7 with fail
    have HZ := Lib.hid (show HeldR w ta fa ma ga ea da tc fc mc gc ec dc m w2.drew from ⟨q0, q1, q2, q3, q4, q5, q6, C2.out.drew⟩)
    clear q0 q1 q2 q3 q4 q5 q6 d1 d2
    refine wp_region_held_drew (S := fun W => HeldR w ta fa ma ga ea da tc fc mc gc ec dc m W) (by kernel_rfl) HZ.out (fun hHeld => ?_)
    refine take_yes (i := 0) (d := (some 19)) (v := ?_) rfl (by kernel_rfl) (by kernel_rfl) (by kernel_rfl) rfl (fun _ _ _ h => h) (by rfl) (by assumption) ?_ ?_
    rotate_left
    · (intro w hSw; (try dsimp only at hSw); go_simp; try with_reducible rfl)
    try simp only [Act.put, List.setIfInBounds_toArray, List.set_cons_zero, List.set_cons_succ]
    refine take_yes (i := 1) (d := (some 20)) (v := ?_) rfl (by kernel_rfl) (by kernel_rfl) (by kernel_rfl) rfl (fun _ _ _ h => h) (by rfl) (by assumption) ?_ ?_
    rotate_left
    · (intro w hSw; (try dsimp only at hSw); go_simp; try with_reducible rfl)
    try simp only [Act.put, List.setIfInBounds_toArray, List.set_cons_zero, List.set_cons_succ]
    refine take_yes (i := 2) (d := (some 21)) (v := ?_) rfl (by kernel_rfl) (by kernel_rfl) (by kernel_rfl) rfl (fun _ _ _ h => h) (by rfl) (by assumption) ?_ ?_
    rotate_left
    · (intro w hSw; (try dsimp only at hSw); go_simp; try with_reducible rfl)
    try simp only [Act.put, List.setIfInBounds_toArray, List.set_cons_zero, List.set_cons_succ]
    refine take_yes (i := 4) (d := (some 23)) (v := ?_) rfl (by kernel_rfl) (by kernel_rfl) (by kernel_rfl) rfl (fun _ _ _ h => h) (by rfl) (by assumption) ?_ ?_
    rotate_left
    · (intro w hSw; (try dsimp only at hSw); go_simp; try with_reducible rfl)
    try simp only [Act.put, List.setIfInBounds_toArray, List.set_cons_zero, List.set_cons_succ]
    refine wpAnyH_ready (rs := [3]) (by kernel_rfl) (by simp) ?_
    refine AllReadyH.cons (o := _) rfl (fun K hK => ?_) AllReadyH.nil
    go_simp
    go_at_call 6
    refine (K1.out _ (HeldR.below hHeld)).mono ?_
    rintro en W2 ⟨rfl, c2⟩
    go_wp2_with fail
    refine hK.out _ _ (heldR_later c2 hHeld) (fun hHeld => ?_)
    clear c2
    clear hK K
    try simp only [Act.put, List.setIfInBounds_toArray, List.set_cons_zero, List.set_cons_succ]
    refine wpAnyH_ready (rs := [5]) (by kernel_rfl) (by simp) ?_
    refine AllReadyH.cons (o := _) rfl (fun K hK => ?_) AllReadyH.nil
    go_simp
    go_at_call 7
    refine (K2.out _ (HeldR.below hHeld)).mono ?_
    rintro en W2 ⟨rfl, c2⟩
    go_wp2_with fail
    refine hK.out _ _ (heldR_later c2 hHeld) (fun hHeld => ?_)
    clear c2
    clear hK K
    try simp only [Act.put, List.setIfInBounds_toArray, List.set_cons_zero, List.set_cons_succ]
    refine take_yes (i := 6) (d := (some 25)) (v := ?_) rfl (by kernel_rfl) (by kernel_rfl) (by kernel_rfl) rfl (fun _ _ _ h => h) (by rfl) (by assumption) ?_ ?_
    rotate_left
    · (intro w hSw; (try dsimp only at hSw); go_simp; try with_reducible rfl)
    try simp only [Act.put, List.setIfInBounds_toArray, List.set_cons_zero, List.set_cons_succ]
    refine take_yes (i := 7) (d := (some 26)) (v := ?_) rfl (by kernel_rfl) (by kernel_rfl) (by kernel_rfl) rfl (fun _ _ _ h => h) (by rfl) (by assumption) ?_ ?_
    rotate_left
    · (intro w hSw; (try dsimp only at hSw); go_simp; try with_reducible rfl)
    try simp only [Act.put, List.setIfInBounds_toArray, List.set_cons_zero, List.set_cons_succ]
    refine take_yes (i := 8) (d := (some 27)) (v := ?_) rfl (by kernel_rfl) (by kernel_rfl) (by kernel_rfl) rfl (fun _ _ _ h => h) (by rfl) (by assumption) ?_ ?_
    rotate_left
    · (intro w hSw; (try dsimp only at hSw); go_simp; try with_reducible rfl)
    try simp only [Act.put, List.setIfInBounds_toArray, List.set_cons_zero, List.set_cons_succ]
    refine take_yes (i := 9) (d := (some 28)) (v := ?_) rfl (by kernel_rfl) (by kernel_rfl) (by kernel_rfl) rfl (fun _ _ _ h => h) (by rfl) (by assumption) ?_ ?_
    rotate_left
    · (intro w hSw; (try dsimp only at hSw); go_simp; try with_reducible rfl)
    try simp only [Act.put, List.setIfInBounds_toArray, List.set_cons_zero, List.set_cons_succ]
    refine take_yes (i := 11) (d := (some 30)) (v := ?_) rfl (by kernel_rfl) (by kernel_rfl) (by kernel_rfl) rfl (fun _ _ _ h => h) (by rfl) (by assumption) ?_ ?_
    rotate_left
    · (intro w hSw; (try dsimp only at hSw); go_simp; try with_reducible rfl)
    try simp only [Act.put, List.setIfInBounds_toArray, List.set_cons_zero, List.set_cons_succ]
    refine wpAnyH_ready (rs := [10]) (by kernel_rfl) (by simp) ?_
    refine AllReadyH.cons (o := _) rfl (fun K hK => ?_) AllReadyH.nil
    go_simp
    go_at_call 8
    refine (K3.out _ (HeldR.below hHeld)).mono ?_
    rintro en W2 ⟨rfl, c2⟩
    go_wp2_with fail
    refine hK.out _ _ (heldR_later c2 hHeld) (fun hHeld => ?_)
    clear c2
    clear hK K
    try simp only [Act.put, List.setIfInBounds_toArray, List.set_cons_zero, List.set_cons_succ]
    refine wpAnyH_ready (rs := [12]) (by kernel_rfl) (by simp) ?_
    refine AllReadyH.cons (o := _) rfl (fun K hK => ?_) AllReadyH.nil
    go_simp
    go_at_call 9
    refine (K4.out _ (HeldR.below hHeld)).mono ?_
    rintro en W2 ⟨rfl, c2⟩
    go_wp2_with fail
    refine hK.out _ _ (heldR_later c2 hHeld) (fun hHeld => ?_)
    clear c2
    clear hK K
    try simp only [Act.put, List.setIfInBounds_toArray, List.set_cons_zero, List.set_cons_succ]
    refine take_yes (i := 13) (d := (some 32)) (v := ?_) rfl (by kernel_rfl) (by kernel_rfl) (by kernel_rfl) rfl (fun _ _ _ h => h) (by rfl) (by assumption) ?_ ?_
    rotate_left
    · (intro w hSw; (try dsimp only at hSw); go_simp; try with_reducible rfl)
    try simp only [Act.put, List.setIfInBounds_toArray, List.set_cons_zero, List.set_cons_succ]
    refine take_yes (i := 14) (d := (some 33)) (v := ?_) rfl (by kernel_rfl) (by kernel_rfl) (by kernel_rfl) rfl (fun _ _ _ h => h) (by rfl) (by assumption) ?_ ?_
    rotate_left
    · (intro w hSw; (try dsimp only at hSw); go_simp; try with_reducible rfl)
    try simp only [Act.put, List.setIfInBounds_toArray, List.set_cons_zero, List.set_cons_succ]
    refine take_yes (i := 15) (d := (some 34)) (v := ?_) rfl (by kernel_rfl) (by kernel_rfl) (by kernel_rfl) rfl (fun _ _ _ h => h) (by rfl) (by assumption) ?_ ?_
    rotate_left
    · (intro w hSw; (try dsimp only at hSw); go_simp; try with_reducible rfl)
    try simp only [Act.put, List.setIfInBounds_toArray, List.set_cons_zero, List.set_cons_succ]
    refine take_yes (i := 16) (d := (some 35)) (v := ?_) rfl (by kernel_rfl) (by kernel_rfl) (by kernel_rfl) rfl (fun _ _ _ h => h) (by rfl) (by assumption) ?_ ?_
    rotate_left
    · (intro w hSw; (try dsimp only at hSw); go_simp; try with_reducible rfl)
    try simp only [Act.put, List.setIfInBounds_toArray, List.set_cons_zero, List.set_cons_succ]
    refine take_yes (i := 18) (d := (some 37)) (v := ?_) rfl (by kernel_rfl) (by kernel_rfl) (by kernel_rfl) rfl (fun _ _ _ h => h) (by rfl) (by assumption) ?_ ?_
    rotate_left
    · (intro w hSw; (try dsimp only at hSw); go_simp; try with_reducible rfl)
    try simp only [Act.put, List.setIfInBounds_toArray, List.set_cons_zero, List.set_cons_succ]
    refine wpAnyH_ready (rs := [17]) (by kernel_rfl) (by simp) ?_
    refine AllReadyH.cons (o := _) rfl (fun K hK => ?_) AllReadyH.nil
    go_simp
    go_at_call 10
    refine (K5.out _ (HeldR.below hHeld)).mono ?_
    rintro en W2 ⟨rfl, c2⟩
    go_wp2_with fail
    refine hK.out _ _ (heldR_later c2 hHeld) (fun hHeld => ?_)
    clear c2
    clear hK K
    try simp only [Act.put, List.setIfInBounds_toArray, List.set_cons_zero, List.set_cons_succ]
    refine wpAnyH_ready (rs := [19]) (by kernel_rfl) (by simp) ?_
    refine AllReadyH.cons (o := _) rfl (fun K hK => ?_) AllReadyH.nil
    go_simp
    go_at_call 11
    refine (K6.out _ (HeldR.below hHeld)).mono ?_
    rintro en W2 ⟨rfl, c2⟩
    go_wp2_with fail
    refine hK.out _ _ (heldR_later c2 hHeld) (fun hHeld => ?_)
    clear c2
    clear hK K
    try simp only [Act.put, List.setIfInBounds_toArray, List.set_cons_zero, List.set_cons_succ]
    refine take_yes (i := 20) (d := (some 39)) (v := ?_) rfl (by kernel_rfl) (by kernel_rfl) (by kernel_rfl) rfl (fun _ _ _ h => h) (by rfl) (by assumption) ?_ ?_
    rotate_left
    · (intro w hSw; (try dsimp only at hSw); go_simp; try with_reducible rfl)
    try simp only [Act.put, List.setIfInBounds_toArray, List.set_cons_zero, List.set_cons_succ]
    refine take_yes (i := 21) (d := (some 40)) (v := ?_) rfl (by kernel_rfl) (by kernel_rfl) (by kernel_rfl) rfl (fun _ _ _ h => h) (by rfl) (by assumption) ?_ ?_
    rotate_left
    · (intro w hSw; (try dsimp only at hSw); go_simp; try with_reducible rfl)
    try simp only [Act.put, List.setIfInBounds_toArray, List.set_cons_zero, List.set_cons_succ]
    refine take_yes (i := 22) (d := (some 4)) (v := ?_) rfl (by kernel_rfl) (by kernel_rfl) (by kernel_rfl) rfl (fun _ _ _ h => h) (by rfl) (by assumption) ?_ ?_
    rotate_left
    · (intro w hSw; (try dsimp only at hSw); go_simp; try with_reducible rfl)
    try simp only [Act.put, List.setIfInBounds_toArray, List.set_cons_zero, List.set_cons_succ]
    refine wpAnyH_done (by kernel_rfl) ?_ _
    go_wp2_with fail
    go_ret
    exact ⟨by simp, HeldR.below hHeld⟩
  · have d1 : decide ((0 : Int) < (m.funcs.length : Int)) = true := decide_eq_true (by omega)
    have d2 : decide (0 < m.funcs.length) = true := decide_eq_true hf
    obtain ⟨⟨ty, ls, code⟩, hm⟩ : ∃ x, m.funcs[0]? = some x := ⟨_, List.getElem?_eq_getElem hf⟩
    obtain ⟨r, ⟨cv, rfl, hcd, hls, hroom⟩, _, b, off, rfl, hb, hcell⟩ := HFX.out 0 _ hm
    change code.length * 48 ≤ _ at hroom
    have HCD := Lib.hid hcd
    obtain ⟨cla, ccp, rfl, _⟩ := ListAt.form hcd
    have c2 : w2.cell? ⟨b, off + 2, none⟩ = some (.slice cla code.length ccp) := by
      have h9 := hcell 2 _ rfl
      rw [Nat.zero_mul, Nat.add_zero] at h9
      exact cell_later C2.out h9
    clear hm hcell hcd hls
    have K3 := Lib.hid (show CaW w 8 #[.slice cla code.length ccp] (structB [] (opsOf code)) from fun W hW => struct_any code (.slice cla code.length ccp) W (ListAt.later lasts_ins HCD.out hW) hroom)
    have K4 := Lib.hid (show CaW w 9 #[.slice cla code.length ccp] (structB [] (opsOf code)) from fun W hW => rstruct_any code (.slice cla code.length ccp) W (ListAt.later lasts_ins HCD.out hW) hroom)
    obtain ⟨S, hS⟩ : ∃ S, structB [] (opsOf code) = S := ⟨_, rfl⟩
    rw [hS] at K3 K4
    clear hS
    go_upto_region 7 with fail
    have HZ := Lib.hid (show HeldR w ta (some ⟨b, off, none⟩) ma ga ea da tc fc mc gc ec dc m w2.drew from ⟨q0, q1, q2, q3, q4, q5, q6, C2.out.drew⟩)
    clear q0 q1 q2 q3 q4 q5 q6 d1 d2 c2
    refine wp_region_held_drew (S := fun W => HeldR w ta (some ⟨b, off, none⟩) ma ga ea da tc fc mc gc ec dc m W) (by kernel_rfl) HZ.out (fun hHeld => ?_)
    refine take_yes (i := 0) (d := (some 19)) (v := ?_) rfl (by kernel_rfl) (by kernel_rfl) (by kernel_rfl) rfl (fun _ _ _ h => h) (by rfl) (by assumption) ?_ ?_
    rotate_left
    · (intro w hSw; (try dsimp only at hSw); go_simp; try with_reducible rfl)
    try simp only [Act.put, List.setIfInBounds_toArray, List.set_cons_zero, List.set_cons_succ]
    refine take_yes (i := 1) (d := (some 20)) (v := ?_) rfl (by kernel_rfl) (by kernel_rfl) (by kernel_rfl) rfl (fun _ _ _ h => h) (by rfl) (by assumption) ?_ ?_
    rotate_left
    · (intro w hSw; (try dsimp only at hSw); go_simp; try with_reducible rfl)
    try simp only [Act.put, List.setIfInBounds_toArray, List.set_cons_zero, List.set_cons_succ]
    refine take_yes (i := 2) (d := (some 21)) (v := ?_) rfl (by kernel_rfl) (by kernel_rfl) (by kernel_rfl) rfl (fun _ _ _ h => h) (by rfl) (by assumption) ?_ ?_
    rotate_left
    · (intro w hSw; (try dsimp only at hSw); go_simp; try with_reducible rfl)
    try simp only [Act.put, List.setIfInBounds_toArray, List.set_cons_zero, List.set_cons_succ]
    refine take_yes (i := 4) (d := (some 23)) (v := ?_) rfl (by kernel_rfl) (by kernel_rfl) (by kernel_rfl) rfl (fun _ _ _ h => h) (by rfl) (by assumption) ?_ ?_
    rotate_left
    · (intro w hSw; (try dsimp only at hSw); go_simp; try with_reducible rfl)
    try simp only [Act.put, List.setIfInBounds_toArray, List.set_cons_zero, List.set_cons_succ]
    refine wpAnyH_ready (rs := [3]) (by kernel_rfl) (by simp) ?_
    refine AllReadyH.cons (o := _) rfl (fun K hK => ?_) AllReadyH.nil
    go_simp
    go_at_call 6
    refine (K1.out _ (HeldR.below hHeld)).mono ?_
    rintro en W2 ⟨rfl, c2⟩
    go_wp2_with fail
    refine hK.out _ _ (heldR_later c2 hHeld) (fun hHeld => ?_)
    clear c2
    clear hK K
    try simp only [Act.put, List.setIfInBounds_toArray, List.set_cons_zero, List.set_cons_succ]
    refine wpAnyH_ready (rs := [5]) (by kernel_rfl) (by simp) ?_
    refine AllReadyH.cons (o := _) rfl (fun K hK => ?_) AllReadyH.nil
    go_simp
    go_at_call 7
    refine (K2.out _ (HeldR.below hHeld)).mono ?_
    rintro en W2 ⟨rfl, c2⟩
    go_wp2_with fail
    refine hK.out _ _ (heldR_later c2 hHeld) (fun hHeld => ?_)
    clear c2
    clear hK K
    try simp only [Act.put, List.setIfInBounds_toArray, List.set_cons_zero, List.set_cons_succ]
    refine take_yes (i := 6) (d := (some 25)) (v := ?_) rfl (by kernel_rfl) (by kernel_rfl) (by kernel_rfl) rfl (fun _ _ _ h => h) (by rfl) (by assumption) ?_ ?_
    rotate_left
    · (intro w hSw; (try dsimp only at hSw); go_simp; try with_reducible rfl)
    try simp only [Act.put, List.setIfInBounds_toArray, List.set_cons_zero, List.set_cons_succ]
    refine take_yes (i := 7) (d := (some 26)) (v := ?_) rfl (by kernel_rfl) (by kernel_rfl) (by kernel_rfl) rfl (fun _ _ _ h => h) (by rfl) (by assumption) ?_ ?_
    rotate_left
    · (intro w hSw; (try dsimp only at hSw); go_simp; try with_reducible rfl)
    try simp only [Act.put, List.setIfInBounds_toArray, List.set_cons_zero, List.set_cons_succ]
    refine take_yes (i := 8) (d := (some 27)) (v := ?_) rfl (by kernel_rfl) (by kernel_rfl) (by kernel_rfl) rfl (fun _ _ _ h => h) (by rfl) (by assumption) ?_ ?_
    rotate_left
    · (intro w hSw; (try dsimp only at hSw); go_simp; try with_reducible rfl)
    try simp only [Act.put, List.setIfInBounds_toArray, List.set_cons_zero, List.set_cons_succ]
    refine take_yes (i := 9) (d := (some 28)) (v := ?_) rfl (by kernel_rfl) (by kernel_rfl) (by kernel_rfl) rfl (fun _ _ _ h => h) (by rfl) (by assumption) ?_ ?_
    rotate_left
    · (intro w hSw; (try dsimp only at hSw); go_simp; try with_reducible rfl)
    try simp only [Act.put, List.setIfInBounds_toArray, List.set_cons_zero, List.set_cons_succ]
    refine take_yes (i := 11) (d := (some 30)) (v := ?_) rfl (by kernel_rfl) (by kernel_rfl) (by kernel_rfl) rfl (fun _ _ _ h => h) (by rfl) (by assumption) ?_ ?_
    rotate_left
    · (intro w hSw; (try dsimp only at hSw); go_simp; try with_reducible rfl)
    try simp only [Act.put, List.setIfInBounds_toArray, List.set_cons_zero, List.set_cons_succ]
    refine wpAnyH_ready (rs := [10]) (by kernel_rfl) (by simp) ?_
    refine AllReadyH.cons (o := _) rfl (fun K hK => ?_) AllReadyH.nil
    go_simp
    go_at_call 8
    refine (K3.out _ (HeldR.below hHeld)).mono ?_
    rintro en W2 ⟨rfl, c2⟩
    go_wp2_with fail
    refine hK.out _ _ (heldR_later c2 hHeld) (fun hHeld => ?_)
    clear c2
    clear hK K
    try simp only [Act.put, List.setIfInBounds_toArray, List.set_cons_zero, List.set_cons_succ]
    refine wpAnyH_ready (rs := [12]) (by kernel_rfl) (by simp) ?_
    refine AllReadyH.cons (o := _) rfl (fun K hK => ?_) AllReadyH.nil
    go_simp
    go_at_call 9
    refine (K4.out _ (HeldR.below hHeld)).mono ?_
    rintro en W2 ⟨rfl, c2⟩
    go_wp2_with fail
    refine hK.out _ _ (heldR_later c2 hHeld) (fun hHeld => ?_)
    clear c2
    clear hK K
    try simp only [Act.put, List.setIfInBounds_toArray, List.set_cons_zero, List.set_cons_succ]
    refine take_yes (i := 13) (d := (some 32)) (v := ?_) rfl (by kernel_rfl) (by kernel_rfl) (by kernel_rfl) rfl (fun _ _ _ h => h) (by rfl) (by assumption) ?_ ?_
    rotate_left
    · (intro w hSw; (try dsimp only at hSw); go_simp; try with_reducible rfl)
    try simp only [Act.put, List.setIfInBounds_toArray, List.set_cons_zero, List.set_cons_succ]
    refine take_yes (i := 14) (d := (some 33)) (v := ?_) rfl (by kernel_rfl) (by kernel_rfl) (by kernel_rfl) rfl (fun _ _ _ h => h) (by rfl) (by assumption) ?_ ?_
    rotate_left
    · (intro w hSw; (try dsimp only at hSw); go_simp; try with_reducible rfl)
    try simp only [Act.put, List.setIfInBounds_toArray, List.set_cons_zero, List.set_cons_succ]
    refine take_yes (i := 15) (d := (some 34)) (v := ?_) rfl (by kernel_rfl) (by kernel_rfl) (by kernel_rfl) rfl (fun _ _ _ h => h) (by rfl) (by assumption) ?_ ?_
    rotate_left
    · (intro w hSw; (try dsimp only at hSw); go_simp; try with_reducible rfl)
    try simp only [Act.put, List.setIfInBounds_toArray, List.set_cons_zero, List.set_cons_succ]
    refine take_yes (i := 16) (d := (some 35)) (v := ?_) rfl (by kernel_rfl) (by kernel_rfl) (by kernel_rfl) rfl (fun _ _ _ h => h) (by rfl) (by assumption) ?_ ?_
    rotate_left
    · (intro w hSw; (try dsimp only at hSw); go_simp; try with_reducible rfl)
    try simp only [Act.put, List.setIfInBounds_toArray, List.set_cons_zero, List.set_cons_succ]
    refine take_yes (i := 18) (d := (some 37)) (v := ?_) rfl (by kernel_rfl) (by kernel_rfl) (by kernel_rfl) rfl (fun _ _ _ h => h) (by rfl) (by assumption) ?_ ?_
    rotate_left
    · (intro w hSw; (try dsimp only at hSw); go_simp; try with_reducible rfl)
    try simp only [Act.put, List.setIfInBounds_toArray, List.set_cons_zero, List.set_cons_succ]
    refine wpAnyH_ready (rs := [17]) (by kernel_rfl) (by simp) ?_
    refine AllReadyH.cons (o := _) rfl (fun K hK => ?_) AllReadyH.nil
    go_simp
    go_at_call 10
    refine (K5.out _ (HeldR.below hHeld)).mono ?_
    rintro en W2 ⟨rfl, c2⟩
    go_wp2_with fail
    refine hK.out _ _ (heldR_later c2 hHeld) (fun hHeld => ?_)
    clear c2
    clear hK K
    try simp only [Act.put, List.setIfInBounds_toArray, List.set_cons_zero, List.set_cons_succ]
    refine wpAnyH_ready (rs := [19]) (by kernel_rfl) (by simp) ?_
    refine AllReadyH.cons (o := _) rfl (fun K hK => ?_) AllReadyH.nil
    go_simp
    go_at_call 11
    refine (K6.out _ (HeldR.below hHeld)).mono ?_
    rintro en W2 ⟨rfl, c2⟩
    go_wp2_with fail
    refine hK.out _ _ (heldR_later c2 hHeld) (fun hHeld => ?_)
    clear c2
    clear hK K
    try simp only [Act.put, List.setIfInBounds_toArray, List.set_cons_zero, List.set_cons_succ]
    refine take_yes (i := 20) (d := (some 39)) (v := ?_) rfl (by kernel_rfl) (by kernel_rfl) (by kernel_rfl) rfl (fun _ _ _ h => h) (by rfl) (by assumption) ?_ ?_
    rotate_left
    · (intro w hSw; (try dsimp only at hSw); go_simp; try with_reducible rfl)
    try simp only [Act.put, List.setIfInBounds_toArray, List.set_cons_zero, List.set_cons_succ]
    refine take_yes (i := 21) (d := (some 40)) (v := ?_) rfl (by kernel_rfl) (by kernel_rfl) (by kernel_rfl) rfl (fun _ _ _ h => h) (by rfl) (by assumption) ?_ ?_
    rotate_left
    · (intro w hSw; (try dsimp only at hSw); go_simp; try with_reducible rfl)
    try simp only [Act.put, List.setIfInBounds_toArray, List.set_cons_zero, List.set_cons_succ]
    refine take_yes (i := 22) (d := (some 4)) (v := ?_) rfl (by kernel_rfl) (by kernel_rfl) (by kernel_rfl) rfl (fun _ _ _ h => h) (by rfl) (by assumption) ?_ ?_
    rotate_left
    · (intro w hSw; (try dsimp only at hSw); go_simp; try with_reducible rfl)
    try simp only [Act.put, List.setIfInBounds_toArray, List.set_cons_zero, List.set_cons_succ]
    refine wpAnyH_done (by kernel_rfl) ?_ _
    go_wp2_with fail
    go_ret
    exact ⟨by simp, HeldR.below hHeld⟩
end Go.Proofs.YtkemaonhchklmaaGreatDoor.Mod
