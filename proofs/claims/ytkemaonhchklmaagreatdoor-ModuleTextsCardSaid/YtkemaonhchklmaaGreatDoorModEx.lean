/-
  The chapter's examples. No condition beyond what each theorem names.
-/
import Derived.Test.YtkemaonhchklmaaGreatDoorMdCo
import Derived.Test.YtkemaonhchklmaaGreatDoorModSameP
import Derived.Test.YtkemaonhchklmaaGreatDoorModTextB
import Derived.Test.YtkemaonhchklmaaGreatDoorModExA
import Derived.Test.YtkemaonhchklmaaGreatDoorPgAny
namespace Go.Proofs.YtkemaonhchklmaaGreatDoor.Mod
open Go.RowKit Go.Maps Go.Lib Go.Proofs.YtkemaonhchklmaaGreatDoor.Op Go.Proofs.YtkemaonhchklmaaGreatDoor.Pg
set_option linter.unusedVariables false
theorem mod_room (c : List Ins) (h : c.length ≤ 100000) : ModRoom (modOf c) := by
  refine ⟨⟨(show 1 ≤ 1000000000 by decide), fun x hx => ?_⟩, ⟨(show 1 ≤ 1000000000 by decide), fun x hx => ?_⟩, (show 1 ≤ 1000000000 by decide), (show 2 ≤ 1000000000 by decide), ⟨(show 1 ≤ 1000000000 by decide), fun x hx => ?_⟩, (show 1 ≤ 1000000000 by decide), fun x hx => ?_⟩
  · obtain rfl := List.mem_singleton.1 hx
    decide
  · obtain rfl := List.mem_singleton.1 hx
    refine ⟨(show 2 ≤ 9223372036854775807 by decide), by rw [List.length_map]; omega, fun y hy => ?_⟩
    obtain ⟨z, _, rfl⟩ := List.mem_map.1 hy
    exact Nat.zero_le _
  · obtain rfl := List.mem_singleton.1 hx
    decide
  · obtain rfl := List.mem_singleton.1 hx
    decide
def exText : ByteArray := sayB (sayB ⟨#[105, 51, 50, 46, 108, 111, 97, 100]⟩ ⟨#[111, 102, 102, 115, 101, 116, 61]⟩ 8) ⟨#[97, 108, 105, 103, 110, 61]⟩ 2
theorem dec_two : decDigits 2 = [50] := by rw [decDigits, dif_pos (by decide)]; rfl
theorem dec_eight : decDigits 8 = [56] := by rw [decDigits, dif_pos (by decide)]; rfl
theorem itoa_two : Lib.itoa 2 = [50] := by unfold Lib.itoa; rw [if_neg (by decide), show (2 : Int).toNat = 2 from rfl, dec_two]
theorem itoa_eight : Lib.itoa 8 = [56] := by unfold Lib.itoa; rw [if_neg (by decide), show (8 : Int).toNat = 8 from rfl, dec_eight]
theorem ex_text : exText.toList = [105, 51, 50, 46, 108, 111, 97, 100, 32, 111, 102, 102, 115, 101, 116, 61, 56, 32, 97, 108, 105, 103, 110, 61, 50] := by
  unfold exText sayB
  rw [itoa_two, itoa_eight, ByteArray.toList_eq]
  rfl
theorem ex_i40 : opInfo 40 = some ⟨⟨#[105, 51, 50, 46, 108, 111, 97, 100]⟩, 5, ⟨#[127]⟩, ⟨#[127]⟩⟩ := by kernel_rfl
theorem ex_r40 : rightB 40 2 8 [] = true := by kernel_rfl
set_option maxRecDepth 100000 in
set_option maxHeartbeats 4000000 in
theorem examples04 (w : World) (hE : MEnv w) (hP : PowEnv w) : Calls Tryz.prog 5 #[] w fun e w' => e = .returned (.bool true) ∧ Below w.heap.size w w' := by
  have HM := Lib.hid (made_any (.slice none 0 0) [] w (steps_nil w) (made_opsWf []))
  have HE := Lib.hid hE
  have HP := Lib.hid hP
  clear hE hP
  go_enter Tryz.func5, Tryz.ntmps5
  go_wp2_with fail
  refine HM.out.mono ?_
  rintro e w1 ⟨⟨bt, bf, bm, bg, be, bd, cv, rfl, hA⟩, c1⟩
  clear HM
  have HA := Lib.hid hA
  have C1 := Lib.hid (c1.trans (((Below.refl _ _).alloc (Nat.le_refl _) (.cells #[slV bt 1, slV bf 1, slV bm 1, slV bg 2, slV be 1, .int .i64 (-1), slV bd 1] 29)).mono c1.size))
  clear hA c1
  unfold madeV modV slV
  unfold slV at C1
  go_wp2_with fail
  refine (text_s5 40 2 8 none 0 _ _ _ _ (opEnv_later HE.out.op C1.out) (HP.out.later C1.out) (by decide) ex_r40 ex_i40 (by decide) (by decide) (by decide) (by decide)).mono ?_
  rintro e w2 ⟨rfl, c2⟩
  have C2 := Lib.hid (C1.out.trans (c2.mono C1.out.size))
  have HA2 := Lib.hid ((HA.out.later ((Below.refl _ _).alloc (Nat.le_refl _) _)).later c2)
  have HK := Lib.hid (show HeldM w1.heap.size (.slice (some ⟨bt, 0, none⟩) 1 1) (.slice (some ⟨bf, 0, none⟩) 1 1) (.slice (some ⟨bm, 0, none⟩) 1 1) (.slice (some ⟨bg, 0, none⟩) 2 2) (.slice (some ⟨be, 0, none⟩) 1 1) (-1) (.slice (some ⟨bd, 0, none⟩) 1 1) w2 w2 from ⟨cell_later c2 (by simp), cell_later c2 (by simp), cell_later c2 (by simp), cell_later c2 (by simp), cell_later c2 (by simp), cell_later c2 (by simp), cell_later c2 (by simp), Below.refl _ _⟩)
  change Hid (HeldM w1.heap.size (.slice (some ⟨bt, 0, none⟩) 1 1) (.slice (some ⟨bf, 0, none⟩) 1 1) (.slice (some ⟨bm, 0, none⟩) 1 1) (.slice (some ⟨bg, 0, none⟩) 2 2) (.slice (some ⟨be, 0, none⟩) 1 1) (-1) (.slice (some ⟨bd, 0, none⟩) 1 1) w2 w2) at HK
  obtain ⟨q0, q1, q2, q3, q4, q5, q6, _⟩ := HK.out
  clear c2
  obtain ⟨E, hE⟩ : ∃ E, exText = E := ⟨_, rfl⟩
  have HT := Lib.hid (show E.toList = [105, 51, 50, 46, 108, 111, 97, 100, 32, 111, 102, 102, 115, 101, 116, 61, 56, 32, 97, 108, 105, 103, 110, 61, 50] from by rw [← hE]; exact ex_text)
  unfold exText at hE
  rw [hE]
  clear hE
  have h50 := HT.out
  have HRT := Lib.hid (fun (W : World) (hb : Below w2.heap.size w2 W) => (show Calls Tryz.prog 6 #[.agg #[.slice (some ⟨bt, 0, none⟩) 1 1, .slice (some ⟨bf, 0, none⟩) 1 1, .slice (some ⟨bm, 0, none⟩) 1 1, .slice (some ⟨bg, 0, none⟩) 2 2, .slice (some ⟨be, 0, none⟩) 1 1, .int .i64 (-1), .slice (some ⟨bd, 0, none⟩) 1 1]] W fun e w' => e = .returned (.bool true) ∧ Below W.heap.size W w' from by
    have h := rightM_any _ _ _ _ _ _ _ _ W (HE.out.later (C2.out.trans (hb.mono C2.out.size))) (HA2.out.later hb).mod
    rw [made_right] at h
    exact h))
  have HCP := Lib.hid (fun (W : World) (hb : Below w2.heap.size w2 W) => (show Calls Tryz.prog 17 #[.agg #[.slice (some ⟨bt, 0, none⟩) 1 1, .slice (some ⟨bf, 0, none⟩) 1 1, .slice (some ⟨bm, 0, none⟩) 1 1, .slice (some ⟨bg, 0, none⟩) 2 2, .slice (some ⟨be, 0, none⟩) 1 1, .int .i64 (-1), .slice (some ⟨bd, 0, none⟩) 1 1]] W fun en w' => ∃ t f me g e d, en = .returned (.agg #[t, f, me, g, e, .int .i64 (-1), d]) ∧ OwnMod w' W.heap.size t f me g e d (modOf (madeP []).code) ∧ Below W.heap.size W w' from copy_mod (HA2.out.later hb).mod (mod_room _ (made_len []))))
  have HSM := Lib.hid (fun (W : World) (hb : Below w2.heap.size w2 W) (t f me g e d : Value) (ho : ∃ B, OwnMod W B t f me g e d (modOf (madeP []).code)) => (show Calls Tryz.prog 14 #[.agg #[.slice (some ⟨bt, 0, none⟩) 1 1, .slice (some ⟨bf, 0, none⟩) 1 1, .slice (some ⟨bm, 0, none⟩) 1 1, .slice (some ⟨bg, 0, none⟩) 2 2, .slice (some ⟨be, 0, none⟩) 1 1, .int .i64 (-1), .slice (some ⟨bd, 0, none⟩) 1 1], .agg #[t, f, me, g, e, .int .i64 (-1), d]] W fun e w' => e = .returned (.bool true) ∧ Below W.heap.size W w' from by
    obtain ⟨B, ho⟩ := ho
    have h := sameM_any _ _ _ _ _ _ _ _ _ _ _ _ _ _ _ _ W (HA2.out.later hb).mod (ho.mod (mod_room _ (made_len []))) (mod_room _ (made_len [])).labs (mod_room _ (made_len [])).labs
    rw [sameM_self] at h
    exact h))
  have HS0 := Lib.hid (fun (W : World) => (show Calls Tryz.prog 8 #[.slice none 0 0] W fun e w' => e = .returned (.bool false) ∧ Below W.heap.size W w' from struct_any [] _ W (code_nil W) (by decide)))
  have HS1 := Lib.hid (fun (W : World) => (show Calls Tryz.prog 8 #[.slice (some ⟨W.heap.size, 0, none⟩) 1 1] (W.alloc (.cells #[.int .i64 11, .int .i64 0, .int .i64 0, .slice none 0 0] 40)) fun e w' => e = .returned (.bool true) ∧ Below (W.alloc (.cells #[.int .i64 11, .int .i64 0, .int .i64 0, .slice none 0 0] 40)).heap.size (W.alloc (.cells #[.int .i64 11, .int .i64 0, .int .i64 0, .slice none 0 0] 40)) w' from struct_any [⟨11, 0, 0, []⟩] _ _ (one_code W 11 0 0 (by decide) (0, 0)) (by decide)))
  have HN1 := Lib.hid (fun (W : World) (hb : Below w2.heap.size w2 W) => (show Calls Tryz.prog 10 #[.string ⟨#[195, 164]⟩] W fun e w' => e = .returned (.bool true) ∧ Below W.heap.size W w' from name_any ⟨#[195, 164]⟩ W (HE.out.later (C2.out.trans (hb.mono C2.out.size))) (by decide)))
  have HN2 := Lib.hid (fun (W : World) (hb : Below w2.heap.size w2 W) => (show Calls Tryz.prog 10 #[.string ⟨#[255]⟩] W fun e w' => e = .returned (.bool false) ∧ Below W.heap.size W w' from name_any ⟨#[255]⟩ W (HE.out.later (C2.out.trans (hb.mono C2.out.size))) (by decide)))
  clear q0 q1 q2 q3 q4 q5 q6
  go_wp2_with fail
  go_region_held3 (fun W => HeldM w1.heap.size (.slice (some ⟨bt, 0, none⟩) 1 1) (.slice (some ⟨bf, 0, none⟩) 1 1) (.slice (some ⟨bm, 0, none⟩) 1 1) (.slice (some ⟨bg, 0, none⟩) 2 2) (.slice (some ⟨be, 0, none⟩) 1 1) (-1) (.slice (some ⟨bd, 0, none⟩) 1 1) w2 W)
    (first | (with_reducible assumption) | (with_reducible exact HK.out) | (with_reducible exact heldM_drew HK.out) | (with_reducible exact heldM_alloc _ (by with_reducible assumption)) | (with_reducible exact heldM_drew (by with_reducible assumption)) | (with_reducible exact heldM_alloc _ (heldM_drew (by with_reducible assumption))) | (with_reducible exact heldM_drew (heldM_alloc _ (by with_reducible assumption))))
    (first
      | (go_at_call 6; (with_reducible refine (HRT.out _ ?_).mono ?_); (exact (‹HeldM w1.heap.size _ _ _ _ _ _ _ w2 _›).2.2.2.2.2.2.2); rintro en Wa ⟨rfl, ca⟩; have ka := heldM_later (W0 := w2) (p := w1.heap.size) ca (by with_reducible assumption))
      | (go_at_call 8; (with_reducible refine (HS0.out _).mono ?_); rintro en Wb ⟨rfl, cb⟩; have kb := heldM_later (W0 := w2) (p := w1.heap.size) cb (by with_reducible assumption))
      | (go_at_call 8; (with_reducible refine (HS1.out _).mono ?_); rintro en Wc ⟨rfl, cc⟩; have kc := heldM_later (W0 := w2) (p := w1.heap.size) cc (by first | (with_reducible assumption) | exact heldM_alloc _ (by with_reducible assumption)))
      | (go_at_call 17; (with_reducible refine (HCP.out _ ?_).mono ?_); (exact (‹HeldM w1.heap.size _ _ _ _ _ _ _ w2 _›).2.2.2.2.2.2.2); rintro en Wd ⟨vt, vf, vm, vg, ve, vd, rfl, od, cd⟩; have OD := Lib.hid od; clear od; have kd := heldM_later (W0 := w2) (p := w1.heap.size) cd (by with_reducible assumption))
      | (go_at_call 14; (with_reducible refine (HSM.out _ ?_ _ _ _ _ _ _ ?_).mono ?_); (exact (‹HeldM w1.heap.size _ _ _ _ _ _ _ w2 _›).2.2.2.2.2.2.2); (exact ⟨_, OD.out⟩); rintro en We ⟨rfl, ce⟩; have ke := heldM_later (W0 := w2) (p := w1.heap.size) ce (by with_reducible assumption))
      | (go_at_call 10; (with_reducible refine (HN1.out _ ?_).mono ?_); (exact (‹HeldM w1.heap.size _ _ _ _ _ _ _ w2 _›).2.2.2.2.2.2.2); rintro en Wf ⟨rfl, cf⟩; have kf := heldM_later (W0 := w2) (p := w1.heap.size) cf (by with_reducible assumption))
      | (go_at_call 10; (with_reducible refine (HN2.out _ ?_).mono ?_); (exact (‹HeldM w1.heap.size _ _ _ _ _ _ _ w2 _›).2.2.2.2.2.2.2); rintro en Wg ⟨rfl, cg⟩; have kg := heldM_later (W0 := w2) (p := w1.heap.size) cg (by with_reducible assumption)))
  all_goals
    go_wp2_with fail
    go_ret
    exact ⟨rfl, C2.out.trans (kg.2.2.2.2.2.2.2.mono C2.out.size)⟩
end Go.Proofs.YtkemaonhchklmaaGreatDoor.Mod
