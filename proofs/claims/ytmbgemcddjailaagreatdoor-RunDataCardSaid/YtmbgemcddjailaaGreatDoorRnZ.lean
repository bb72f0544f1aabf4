/-
  RunNo, RunZ, RunExA, RunEx in one.
-/
import Derived.Test.YtmbgemcddjailaaGreatDoorRunW
import Derived.OwnWalk
import Derived.Test.YtmbgemcddjailaaGreatDoorVldHa
import Derived.Test.YtmbgemcddjailaaGreatDoorMdCp
import Derived.Test.YtmbgemcddjailaaGreatDoorRnX
import Derived.Test.YtmbgemcddjailaaGreatDoorRnS
import Derived.Test.YtmbgemcddjailaaGreatDoorPgS
import Derived.Test.YtmbgemcddjailaaGreatDoorPgNil
/- RunNo: Calls that are refused; New of what is not valid. No condition beyond what each theorem names. -/
namespace Go.Proofs.YtmbgemcddjailaaGreatDoor.Run
open Go.RowKit Go.Maps Go.Proofs.YtmbgemcddjailaaGreatDoor.Op Go.Proofs.YtmbgemcddjailaaGreatDoor.Mod
set_option linter.unusedVariables false
theorem below_drewN (w : World) (n : Nat) : Below w.heap.size w (w.drewN n) := ⟨rfl, rfl, rfl, Nat.le_refl _, fun _ _ => rfl⟩
set_option maxRecDepth 100000 in
set_option maxHeartbeats 4000000 in
/-- no function of that number -/
theorem call_over (w : World) (K : Mk) (gs : List Nat) (hM : MAt w w.heap.size K gs) (f : Nat) (hf : K.m.funcs.length ≤ f) (hf2 : f ≤ 1000000) (fuel : Nat) (av : Value) :
    Calls Tryz.prog 7 #[.pointer (some ⟨K.R, 0, none⟩), .int .i64 (f : Int), av, .int .i64 (fuel : Int)] w fun e w' => e = .returned (.tuple #[.slice none 0 0, .int .i64 (fuel : Int), .int .i64 1]) ∧ Below w.heap.size w w' := by
  obtain ⟨fa, fc, hfv, _, _⟩ := hM.mod.funcs.form
  obtain ⟨_, m1, _⟩ := hM.cells
  rw [hfv] at m1
  have hlt : K.R < w.heap.size := hM.lt.2
  have d1 : decide ((f : Int) < 0) = false := decide_eq_false (by omega)
  have d2 : decide (K.m.funcs.length ≤ f) = true := decide_eq_true hf
  clear hM hfv hf
  go_enter Tryz.func7, Tryz.ntmps7
  go_wp2_with fail
  go_quiet (fail)
  obtain ⟨W1, hW1⟩ : ∃ W1, w.drewN nq = W1 := ⟨_, rfl⟩
  have e1 : Below w.heap.size w W1 := by rw [← hW1]; exact below_drewN _ _
  rw [hW1]
  have E1 := Lib.hid e1
  clear hW1 e1 m1
  go_wp2_with fail
  go_ret3
  exact ⟨rfl, E1.out⟩
set_option maxRecDepth 100000 in
set_option maxHeartbeats 4000000 in
/-- no arguments where some are wanted -/
theorem call_short (w : World) (K : Mk) (gs : List Nat) (hM : MAt w w.heap.size K gs) (f : Nat) (F : FuncP) (hF : K.m.funcs[f]? = some F) (i : Nat) (hi : F.ty = (i : Int)) (T : FT) (hT : K.m.types[i]? = some T) (h0 : 0 < T.params.size) (hm1 : K.m.funcs.length ≤ 100000) (hm2 : K.m.types.length ≤ 100000) (fuel : Nat) :
    Calls Tryz.prog 7 #[.pointer (some ⟨K.R, 0, none⟩), .int .i64 (f : Int), .slice none 0 0, .int .i64 (fuel : Int)] w fun e w' => e = .returned (.tuple #[.slice none 0 0, .int .i64 (fuel : Int), .int .i64 1]) ∧ Below w.heap.size w w' := by
  obtain ⟨fa, fc, hfv, _, hfat⟩ := hM.mod.funcs.form
  obtain ⟨ta, tc, htv, _, htat⟩ := hM.mod.types.form
  obtain ⟨rf, ⟨cv, hrf, _⟩, _, fb, fo, hfa, hfb, hfc⟩ := hfat f F hF
  obtain ⟨rt, ⟨hrt, _⟩, _, tyb, tyo, hta, htyb, htc⟩ := htat i T hT
  subst hfa hta
  rw [hrf] at hfc
  rw [hrt] at htc
  have hfl := (List.getElem?_eq_some_iff.1 hF).1
  have htl := (List.getElem?_eq_some_iff.1 hT).1
  have k0 : w.cell? ⟨fb, fo + f * 3, none⟩ = some (.int .i64 (i : Int)) := by rw [← hi]; exact cell_later hM.old (hfc 0 _ rfl)
  have p0 : w.cell? ⟨tyb, tyo + i * 2, none⟩ = some (.string T.params) := cell_later hM.old (htc 0 _ rfl)
  obtain ⟨m0, m1, _⟩ := hM.cells
  rw [htv] at m0
  rw [hfv] at m1
  have hi0 : (0 : Int) ≤ (f : Int) := by omega
  have hi1 : (f : Int) < (K.m.funcs.length : Int) := by omega
  have hj0 : (0 : Int) ≤ (i : Int) := by omega
  have hj1 : (i : Int) < (K.m.types.length : Int) := by omega
  have d1 : decide ((f : Int) < 0) = false := decide_eq_false (by omega)
  have d2 : decide (K.m.funcs.length ≤ f) = false := decide_eq_false (by omega)
  have d3 : decide ((fuel : Int) < 0) = false := decide_eq_false (by omega)
  have d4 : ((0 : Int) != (T.params.size : Int)) = true := by simp [bne]; omega
  clear hM hfat htat hfc htc hF hT hrf hrt hfv htv hi
  go_enter Tryz.func7, Tryz.ntmps7
  go_wp2_with fail
  go_quiet (fail)
  obtain ⟨W1, hW1⟩ : ∃ W1, w.drewN nq = W1 := ⟨_, rfl⟩
  have e1 : Below w.heap.size w W1 := by rw [← hW1]; exact below_drewN _ _
  rw [hW1]
  have E1 := Lib.hid e1
  clear hW1 e1 m0 m1 k0 p0
  go_wp2_with fail
  go_ret3
  exact ⟨rfl, E1.out⟩
set_option maxRecDepth 100000 in
set_option maxHeartbeats 4000000 in
/-- what is not valid is no machine -/
theorem new_bad (w : World) (t f me g e : Value) (st : Int) (d : Value) (er : Int) (her : er ≠ 0)
    (hval : ∀ W, Below w.heap.size w W → Calls Tryz.prog 13 #[modV t f me g e st d] W fun e w' => e = .returned (.int .i64 er) ∧ Below W.heap.size W w') :
    Calls Tryz.prog 6 #[modV t f me g e st d] w fun e w' => e = .returned (.tuple #[.pointer none, .int .i64 er]) ∧ Below w.heap.size w w' := by
  have HV := Lib.hid hval
  have d1 : (er == 0) = false := beq_eq_false_iff_ne.2 her
  clear hval her
  unfold modV at HV ⊢
  go_enter Tryz.func6, Tryz.ntmps6
  go_upto_region 1 with fail
  obtain ⟨W1, hW1⟩ : ∃ W1, w.alloc (.cells #[t, f, me, g, e, .int .i64 st, d] 41) = W1 := ⟨_, rfl⟩
  have e1 : Below w.heap.size w W1 := by rw [← hW1]; exact (Below.refl _ _).alloc (Nat.le_refl _) _
  have r1 : W1.heap[w.heap.size]? = some (.cells #[t, f, me, g, e, .int .i64 st, d] 41 (0, 0)) := by rw [← hW1]; exact heap_alloc_new _ _
  rw [hW1]
  have E1 := Lib.hid e1
  have q0 : W1.cell? ⟨w.heap.size, 0, none⟩ = some t := cell_of_row _ _ _ _ _ _ r1
  have q1 : W1.cell? ⟨w.heap.size, 1, none⟩ = some f := cell_of_row _ _ _ _ _ _ r1
  have q2 : W1.cell? ⟨w.heap.size, 2, none⟩ = some me := cell_of_row _ _ _ _ _ _ r1
  have q3 : W1.cell? ⟨w.heap.size, 3, none⟩ = some g := cell_of_row _ _ _ _ _ _ r1
  have q4 : W1.cell? ⟨w.heap.size, 4, none⟩ = some e := cell_of_row _ _ _ _ _ _ r1
  have q5 : W1.cell? ⟨w.heap.size, 5, none⟩ = some (.int .i64 st) := cell_of_row _ _ _ _ _ _ r1
  have q6 : W1.cell? ⟨w.heap.size, 6, none⟩ = some d := cell_of_row _ _ _ _ _ _ r1
  clear hW1 e1 r1
  go_wp2_with fail
  refine (HV.out W1 E1.out).mono ?_
  rintro e2 W2 ⟨rfl, b2⟩
  have E2 := Lib.hid (E1.out.trans (b2.mono E1.out.size))
  clear b2 q0 q1 q2 q3 q4 q5 q6
  go_wp2_with fail
  go_ret2
  exact ⟨rfl, E2.out⟩
end Go.Proofs.YtmbgemcddjailaaGreatDoor.Run

/- RunZ: New of any right and valid module of at most one page, without blocks. No condition beyond what each theorem names. -/
namespace Go.Proofs.YtmbgemcddjailaaGreatDoor.Run
open Go.RowKit Go.Maps Go.Proofs.YtmbgemcddjailaaGreatDoor.Op Go.Proofs.YtmbgemcddjailaaGreatDoor.Mod Go.Proofs.YtmbgemcddjailaaGreatDoor.Vld
set_option linter.unusedVariables false
theorem copyP_of {t f me g e d : Value} {st : Int} {w : World} {m : ModP} (h : ModAt w t f me g e st d m) (hr : ModRoom m) : Calls Tryz.prog 14 #[modV t f me g e st d] w (CopyP w m st) := by
  have hs := h.start
  refine (copy_mod h hr).mono ?_
  rintro en w' ⟨t', f', me', g', e', d', rfl, hc, hb⟩
  have hm := OwnMod.mod (m := m) hc hr
  rw [← hs] at hm ⊢
  obtain ⟨ta, tc, rfl, _, _⟩ := hm.types.form
  obtain ⟨fa, fc, rfl, _, _⟩ := hm.funcs.form
  obtain ⟨ma, mc, rfl, _, _⟩ := hm.memory.form
  obtain ⟨ga, gc, rfl, _, _⟩ := hm.globals.form
  obtain ⟨ea, ec, rfl, _, _⟩ := hm.exports.form
  obtain ⟨da, dc, rfl, _, _⟩ := hm.data.form
  exact ⟨ta, _, tc, fa, _, fc, ma, _, mc, ga, _, gc, ea, _, ec, da, _, dc, rfl, hm, hb⟩
theorem new_of (w : World) (t f me g e : Value) (st : Int) (d : Value) (m : ModP) (hM : ModAt w t f me g e st d m) (hE : MEnv w) (hv : moduleE m = 0) (hr : ModRoom m) (hlen : m.funcs.length ≤ 100000 ∧ m.globals.length ≤ 100000 ∧ m.data.length ≤ 100000)
    (hmem : (m.memory = [] ∧ m.data = []) ∨ ∃ most, m.memory = [⟨1, most⟩] ∧ (most = -1 ∨ (1 ≤ most ∧ most ≤ 65536))) (hdata : ∀ x ∈ m.data, x.bytes.size ≤ 1000000) (hflat : ∀ F ∈ m.funcs, Flat F.code ∧ F.code.length ≤ 1000000) :
    Calls Tryz.prog 6 #[modV t f me g e st d] w (NewPost w m) := by
  refine new_any w t f me g e st d m hM hlen (fun W hb => ?_) (fun W hb => copyP_of (hM.later hb) hr) hmem hdata hflat
  have h := module_any t f me g e st d m W (hM.later hb) (hE.later hb) (fun x hx => (hflat x hx).2)
  rw [hv] at h
  exact h
theorem new_not (w : World) (t f me g e : Value) (st : Int) (d : Value) (m : ModP) (hM : ModAt w t f me g e st d m) (hE : MEnv w) (er : Int) (her : er ≠ 0) (hv : moduleE m = er) (hl : ∀ x ∈ m.funcs, x.code.length ≤ 1000000) :
    Calls Tryz.prog 6 #[modV t f me g e st d] w fun en w' => en = .returned (.tuple #[.pointer none, .int .i64 er]) ∧ Below w.heap.size w w' := by
  refine new_bad w t f me g e st d er her (fun W hb => ?_)
  have h := module_any t f me g e st d m W (hM.later hb) (hE.later hb) hl
  rw [hv] at h
  exact h
end Go.Proofs.YtmbgemcddjailaaGreatDoor.Run

/- RunExA: The machine of chapter 9's examples. No condition beyond what each theorem names. -/
namespace Go.Proofs.YtmbgemcddjailaaGreatDoor.Run
open Go.RowKit Go.Maps Go.Lib Go.Proofs.YtmbgemcddjailaaGreatDoor.Op Go.Proofs.YtmbgemcddjailaaGreatDoor.Mod Go.Proofs.YtmbgemcddjailaaGreatDoor.Pg
set_option linter.unusedVariables false
theorem newPost_some {w w' : World} {m : ModP} {L : Option (List UInt8)} {e : Ending} (h : memO m = some L) (hp : NewPost w m e w') : ∃ K lo, e = .returned (.tuple #[.pointer (some ⟨K.R, 0, none⟩), .int .i64 0]) ∧ MAt w' w'.heap.size K (globL m) ∧ K.m = m ∧ w.heap.size ≤ K.w0.heap.size ∧ K.R < lo ∧ MemS w' lo K.mp L ∧ Below w.heap.size w w' := by
  unfold NewPost at hp
  rw [h] at hp
  exact hp
theorem newPost_none {w w' : World} {m : ModP} {e : Ending} (h : memO m = none) (hp : NewPost w m e w') : e = .returned (.tuple #[.pointer none, .int .i64 6]) ∧ Below w.heap.size w w' := by
  unfold NewPost at hp
  rw [h] at hp
  exact hp
/-- one result -/
theorem callZ_cell {w W : World} {K : Mk} {gs gs0 : List Nat} {n : Nat} {sv : Value} (hM : MAt w w.heap.size K gs0) (h : CallZ w K gs [n] W sv) : ∃ sb cap, sv = .slice (some ⟨sb, 0, none⟩) 1 cap ∧ W.cell? ⟨sb, 0, none⟩ = some (.int .u64 (n : Int)) ∧ ¬ K.foot sb ∧ sb < W.heap.size := by
  obtain ⟨a, cap, hx, _, hform⟩ := nats_form h.1
  obtain ⟨sb, rfl, ho, hlt, hat, _⟩ := hform (by simp)
  have hb := (h.1.lt sb ho).1
  exact ⟨sb, cap, hx, hat 0 n rfl, fun hf => by have := hM.glt sb hf; omega, hlt⟩
def exK : List Ins := [⟨66, 7, 0⟩, ⟨11, 0, 0⟩]
def exF : FuncP := ⟨0, ⟨#[127, 126]⟩, exK.map toL⟩
def exT : FT := ⟨⟨#[126, 127]⟩, ⟨#[126]⟩⟩
def mod0 (st : Int) : ModP := ⟨[], [], [], [], [], st, []⟩
theorem list_nil {α : Type} {size : Nat} {R : World → List Value → α → Prop} (w : World) : ListAt size R w (.slice none 0 0) [] := ListAt.mk (l := ([] : List α)) (Nat.zero_le _) (fun i x hi => by cases i <;> cases hi)
theorem mod0_at (w : World) (st : Int) : ModAt w (.slice none 0 0) (.slice none 0 0) (.slice none 0 0) (.slice none 0 0) (.slice none 0 0) st (.slice none 0 0) (mod0 st) := by
  refine ⟨list_nil w, list_nil w, list_nil w, list_nil w, list_nil w, rfl, list_nil w⟩
theorem ex_room : ModRoom (modOf exK) := by
  refine ⟨⟨by decide, fun x hx => ?_⟩, ⟨by decide, fun x hx => ?_⟩, by decide, by decide, ⟨by decide, fun x hx => ?_⟩, ⟨by decide, fun x hx => ?_⟩⟩
  · obtain rfl := List.mem_singleton.1 hx; exact ⟨by decide, by decide⟩
  · obtain rfl := List.mem_singleton.1 hx; exact ⟨by decide, by decide, fun y hy => by simp only [exK, List.map_cons, List.map_nil, List.mem_cons, List.not_mem_nil, or_false] at hy; rcases hy with rfl | rfl <;> decide⟩
  · obtain rfl := List.mem_singleton.1 hx; decide
  · obtain rfl := List.mem_singleton.1 hx; decide
theorem ex_mem : ∃ L, memO (modOf exK) = some (some L) := by
  unfold memO
  rw [if_neg (by simp [modOf])]
  exact ⟨putL zeroL (offN 100) _, by unfold modOf; simp only [dataL]; rw [if_pos (by decide)]; rfl⟩
theorem ex_glob : globL (modOf exK) = [5, 18446744073709551611] := by decide
theorem ex_flat : ∀ F ∈ (modOf exK).funcs, Flat F.code ∧ F.code.length ≤ 1000000 := fun F hF => by
  obtain rfl := List.mem_singleton.1 hF
  refine ⟨fun x hx => ?_, by decide⟩
  simp only [exK, List.map_cons, List.map_nil, List.mem_cons, List.not_mem_nil, or_false] at hx
  rcases hx with rfl | rfl <;> decide
theorem ex_ask {w : World} {K : Mk} {gs : List Nat} (hM : MAt w w.heap.size K gs) (hm : K.m = modOf exK) (fuel ab : Nat) (hf : fuel ≤ 1000000000) (h0 : w.cell? ⟨ab, 0, none⟩ = some (.int .u64 1)) (h1 : w.cell? ⟨ab, 1, none⟩ = some (.int .u64 2)) : Ask w K gs 0 exF exT [1, 2] fuel ab 0 := by
  refine ⟨hM, by rw [hm]; rfl, ⟨0, rfl, by rw [hm]; rfl⟩, rfl, by decide, by decide, by decide, hf, by decide, by decide, by rw [hm]; decide, by rw [hm]; decide, fun j a ha => ?_⟩
  match j, ha with
  | 0, ha => obtain rfl := Option.some.inj ha; exact h0
  | 1, ha => obtain rfl := Option.some.inj ha; exact h1
  | j + 2, ha => simp at ha
def exS (fuel : Nat) : Nat → Th
  | 0 => startT exF exT [1, 2] fuel
  | 1 => { nextT (startT exF exT [1, 2] fuel) (fuel - 1) with stack := [7] }
  | _ => { nextT (startT exF exT [1, 2] fuel) (fuel - 1) with stack := [7], e := 7 }
theorem ex_step (K : Mk) (gs : List Nat) (fuel : Nat) (hf : fuel < 1000000000) (E : Tc) (hE : Of K exF exT E) (B tb : Nat) : StepTo B tb K E gs gs (exS (fuel + 1) 0) (exS (fuel + 1) 1) :=
  step_66 (t := exS (fuel + 1) 0) (n := fuel) (b := 0) (l := []) (at_of hE rfl (by omega) (by decide) rfl) (show 0 < 4096 by decide) 7 (by decide)
theorem ex_call (w : World) (K : Mk) (gs : List Nat) (hM : MAt w w.heap.size K gs) (hm : K.m = modOf exK) (ab : Nat) (h0 : w.cell? ⟨ab, 0, none⟩ = some (.int .u64 1)) (h1 : w.cell? ⟨ab, 1, none⟩ = some (.int .u64 2)) :
    Calls Tryz.prog 7 #[.pointer (some ⟨K.R, 0, none⟩), .int .i64 0, .slice (some ⟨ab, 0, none⟩) 2 2, .int .i64 10] w fun e w' => ∃ sv, e = .returned (.tuple #[sv, .int .i64 8, .int .i64 0]) ∧ CallZ w K gs [7] w' sv := by
  refine call_run w K gs 0 exF exT [1, 2] 10 ab 0 2 (ex_ask hM hm 10 ab (by decide) h0 h1) 1 (exS 10) (fun _ => gs) gs [7] 8 rfl rfl (fun k hk => ?_) (fun E hE B tb k hk => ?_) (fun E hE B tb W x hS => ?_)
  · match k, hk with
    | 0, _ => rfl
    | 1, _ => rfl
    | k + 2, hk => omega
  · obtain rfl : k = 0 := by omega
    exact ex_step K gs 9 (by decide) E hE B tb
  · have h := step_end (t := exS 10 1) (n := 8) (a := 0) (b := 0) (l := []) (gs := gs) (B := B) (tb := tb) (at_of hE rfl (by decide) (by decide) rfl) rfl (by rw [hE.2.1]; decide) (by rw [hE.1, hE.2.1]; decide) (by decide) rfl W x hS
    rw [hE.1, hE.2.1] at h
    exact h
theorem ex_dry (w : World) (K : Mk) (gs : List Nat) (hM : MAt w w.heap.size K gs) (hm : K.m = modOf exK) (ab : Nat) (h0 : w.cell? ⟨ab, 0, none⟩ = some (.int .u64 1)) (h1 : w.cell? ⟨ab, 1, none⟩ = some (.int .u64 2)) :
    Calls Tryz.prog 7 #[.pointer (some ⟨K.R, 0, none⟩), .int .i64 0, .slice (some ⟨ab, 0, none⟩) 2 2, .int .i64 1] w fun e w' => e = .returned (.tuple #[.slice none 0 0, .int .i64 0, .int .i64 7]) ∧ MAt w' w.heap.size K gs ∧ Keeps K.foot w w' := by
  refine call_stop w K gs 0 exF exT [1, 2] 1 ab 0 2 (ex_ask hM hm 1 ab (by decide) h0 h1) 2 (exS 1) (fun _ => gs) 7 (by decide) rfl rfl (fun k hk => ?_) rfl (fun E hE B tb k hk => ?_)
  · match k, hk with
    | 0, _ => rfl
    | 1, _ => rfl
    | k + 2, hk => omega
  · match k, hk with
    | 0, _ => exact ex_step K gs 0 (by decide) E hE B tb
    | 1, _ => exact step_dry B tb K E gs (exS 1 1) rfl
    | k + 2, hk => omega
end Go.Proofs.YtmbgemcddjailaaGreatDoor.Run

/- RunEx: Chapter 9's examples. No condition beyond what each theorem names. -/
namespace Go.Proofs.YtmbgemcddjailaaGreatDoor.Run
open Go.RowKit Go.Maps Go.Lib Go.Proofs.YtmbgemcddjailaaGreatDoor.Op Go.Proofs.YtmbgemcddjailaaGreatDoor.Mod Go.Proofs.YtmbgemcddjailaaGreatDoor.Pg Go.Proofs.YtmbgemcddjailaaGreatDoor.Vld
set_option linter.unusedVariables false
theorem steps_nil (w : World) : StepsAt w (.slice none 0 0) [] := ListAt.mk (l := ([] : List Step)) (Nat.zero_le _) (fun i x hi => by cases i <;> cases hi)
theorem exK_made : (madeP []).code = exK := by rfl
theorem exK_wf : opsWf (madeP []) := fun x hx => by
  rw [exK_made] at hx
  simp only [exK, List.mem_cons, List.not_mem_nil, or_false] at hx
  rcases hx with rfl | rfl <;> decide
theorem ex_valid : moduleE (modOf exK) = 0 := by kernel_rfl
theorem ex_two : moduleE (mod0 (-2)) = 1 := by kernel_rfl
theorem callZ_top {w W : World} {K : Mk} {gs l : List Nat} {sv : Value} (h : CallZ w K gs l W sv) : MAt W W.heap.size K gs := h.2.1.top
set_option maxRecDepth 100000 in
set_option maxHeartbeats 4000000 in
theorem examples09 (w : World) (hE : MEnv w) : Calls Tryz.prog 5 #[] w fun e w' => e = .returned (.bool true) ∧ Below w.heap.size w w' := by
  have HE := Lib.hid hE
  clear hE
  go_enter Tryz.func5, Tryz.ntmps5
  go_wp2_with fail
  refine (made_nil (.slice none 0 0) [] rfl _ (steps_nil _) exK_wf).mono ?_
  rintro e w1 ⟨⟨bt, bf, bm, bg, be, bd, cv, rfl, hA⟩, c1⟩
  rw [exK_made] at hA
  have HA := Lib.hid hA
  have C1 := Lib.hid c1
  clear hA c1
  unfold madeV modV slV
  go_wp2_with fail
  refine (new_of w1 _ _ _ _ _ _ _ (modOf exK) HA.out.mod (HE.out.later C1.out) ex_valid ex_room ⟨by decide, by decide, by decide⟩ (.inr ⟨2, rfl, by decide⟩) (fun x hx => by obtain rfl := List.mem_singleton.1 hx; decide) ex_flat).mono ?_
  rintro e w2 hP
  obtain ⟨L, hL⟩ := ex_mem
  obtain ⟨K, lo, rfl, hM, hm, hlow, hR, hmem, hb⟩ := newPost_some hL hP
  rw [ex_glob] at hM
  obtain ⟨mb, pb, pc, pv, mx, hmp, _⟩ := hmem
  have HM2 := Lib.hid hM
  have HK := Lib.hid hm
  have HMP := Lib.hid hmp
  have B2 := Lib.hid (C1.out.trans (hb.mono C1.out.size))
  have L1 := Lib.hid (Nat.le_trans C1.out.size hlow)
  clear hP hL hM hm hlow hR hmp hb
  go_wp2_with fail
  refine (new_not w2 _ _ _ _ _ (-2) _ (mod0 (-2)) (mod0_at _ _) (HE.out.later B2.out) 1 (by decide) ex_two (fun x hx => by cases hx)).mono ?_
  rintro e w3 ⟨rfl, c3⟩
  have HM3 := Lib.hid (HM2.out.later c3).top
  have B3 := Lib.hid (B2.out.trans (c3.mono B2.out.size))
  clear c3 HM2
  go_wp2_with fail
  refine (find_one HM3.out ⟨#[102]⟩ 0 0 (by rw [HK.out]; rfl)).mono ?_
  rintro e w4 ⟨rfl, c4⟩
  have HM4 := Lib.hid (HM3.out.later c4).top
  have B4 := Lib.hid (B3.out.trans (c4.mono B3.out.size))
  clear c4 HM3
  go_wp2_with fail
  obtain ⟨V4, hV4⟩ : ∃ V, w4.alloc (.cells #[.int .u64 1, .int .u64 2] 22) = V := ⟨_, rfl⟩
  have d4 : Below w4.heap.size w4 V4 := by rw [← hV4]; exact (Below.refl _ _).alloc (Nat.le_refl _) _
  have r4 : V4.heap[w4.heap.size]? = some (.cells #[.int .u64 1, .int .u64 2] 22 (0, 0)) := by rw [← hV4]; exact heap_alloc_new _ _
  rw [hV4]
  have HN4 := Lib.hid (HM4.out.later d4).top
  have D4 := Lib.hid (B4.out.trans (d4.mono B4.out.size))
  have R4 := Lib.hid r4
  clear hV4 d4 r4 HM4
  refine (ex_call V4 K _ HN4.out HK.out w4.heap.size (cell_of_row _ _ _ _ _ _ R4.out) (cell_of_row _ _ _ _ _ _ R4.out)).mono ?_
  rintro e w5 ⟨sv, rfl, hz⟩
  obtain ⟨sb, cap, rfl, hc, hnf, hlt⟩ := callZ_cell HN4.out hz
  have HM5 := Lib.hid (callZ_top hz)
  have B5 := Lib.hid (D4.out.trans (hz.2.2.below (fun j hj => Nat.le_trans L1.out (HN4.out.glob.lt j hj).1) D4.out.size))
  have HC5 := Lib.hid hc
  have HNF := Lib.hid hnf
  clear hz hc hnf HN4 R4
  go_wp2_with fail
  obtain ⟨V5, hV5⟩ : ∃ V, w5.alloc (.cells #[.int .u64 1, .int .u64 2] 22) = V := ⟨_, rfl⟩
  have d5 : Below w5.heap.size w5 V5 := by rw [← hV5]; exact (Below.refl _ _).alloc (Nat.le_refl _) _
  have r5 : V5.heap[w5.heap.size]? = some (.cells #[.int .u64 1, .int .u64 2] 22 (0, 0)) := by rw [← hV5]; exact heap_alloc_new _ _
  rw [hV5]
  have HN5 := Lib.hid (HM5.out.later d5).top
  have D5 := Lib.hid (B5.out.trans (d5.mono B5.out.size))
  have R5 := Lib.hid r5
  have HC5 := Lib.hid (cell_later d5 HC5.out)
  clear hV5 d5 r5 HM5
  refine (ex_dry V5 K _ HN5.out HK.out w5.heap.size (cell_of_row _ _ _ _ _ _ R5.out) (cell_of_row _ _ _ _ _ _ R5.out)).mono ?_
  rintro e w6 ⟨rfl, hM6, hk6⟩
  have HM6 := Lib.hid hM6.top
  have HC6 := Lib.hid (hk6.cell HC5.out HNF.out)
  have B6 := Lib.hid (D5.out.trans (hk6.below (fun j hj => Nat.le_trans L1.out (HN5.out.glob.lt j hj).1) D5.out.size))
  clear hM6 hk6 HN5 R5 HC5
  go_wp2_with fail
  refine (global_any HM6.out 1 18446744073709551611 rfl (by decide)).mono ?_
  rintro e w7 ⟨rfl, c7⟩
  have HM7 := Lib.hid (HM6.out.later c7).top
  have hc7 := cell_later c7 HC6.out
  have B7 := Lib.hid (B6.out.trans (c7.mono B6.out.size))
  have hw5 : wrap64 18446744073709551611 = -5 := by unfold wrap64; omega
  clear c7 HM6 HC6
  go_wp2_with fail
  refine (memory_any HM7.out).mono ?_
  rintro e w8 ⟨rfl, c8⟩
  rw [HMP.out]
  have B8 := Lib.hid (B7.out.trans (c8.mono B7.out.size))
  clear c8 hc7
  go_wp2_with fail
  go_ret
  exact ⟨rfl, B8.out⟩
end Go.Proofs.YtmbgemcddjailaaGreatDoor.Run
