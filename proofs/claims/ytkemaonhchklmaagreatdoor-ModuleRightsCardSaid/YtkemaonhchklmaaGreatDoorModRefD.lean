/-
  What the reference's Right of chapter 4 answers of any module that came in. No condition beyond what each theorem names.
-/
import Derived.Test.YtkemaonhchklmaaGreatDoorMdRf
import Derived.Test.YtkemaonhchklmaaGreatDoorModIn
namespace Go.Proofs.YtkemaonhchklmaaGreatDoor.Mod
open Go.RowKit Go.Maps Go.Proofs.YtkemaonhchklmaaGreatDoor.Op
set_option linter.unusedVariables false
set_option linter.unusedSimpArgs false
theorem drop_cons_at {α : Type} {l : List α} {k : Nat} {x : α} (h : l[k]? = some x) : l.drop k = x :: l.drop (k + 1) := by
  obtain ⟨hlt, he⟩ := List.getElem?_eq_some_iff.1 h
  rw [List.drop_eq_getElem_cons hlt, he]
theorem allB_long {α : Type} {l : List α} {q : α → Bool} (h : 4096 < l.length) : allB l q = false := by unfold allB; rw [decide_eq_false (by omega)]; rfl
theorem allB_short {α : Type} {l : List α} {q : α → Bool} (h : ¬ 4096 < l.length) : allB l q = l.all q := by unfold allB; rw [decide_eq_true (by omega), Bool.true_and]
/-- one more of a list -/
theorem fine_step {α : Type} {q : α → Bool} {l : List α} {k : Nat} {x : α} {f R v : Bool} (h : (f && (l.drop k).all q) = R) (hx : l[k]? = some x) (hv : (f && q x) = v) : (v && (l.drop (k + 1)).all q) = R := by
  rw [← h, drop_cons_at hx, List.all_cons, ← hv, Bool.and_assoc]
theorem fine_end {α : Type} {q : α → Bool} {l : List α} {f R : Bool} (h : (f && (l.drop l.length).all q) = R) : f = R := by
  rw [← h, List.drop_length]
  simp

set_option maxRecDepth 100000 in
set_option maxHeartbeats 16000000 in
theorem rrightM_any (t fv me g e : Value) (st : Int) (d : Value) (m : ModP) (w : World) (hM : ModAt w t fv me g e st d m) (hO : ModOk m) (ANS : Bool) (hA : rightM m = ANS) :
    Calls Tryz.prog 7 #[modV t fv me g e st d] w fun en w' => en = .returned (.bool ANS) ∧ Below w.heap.size w w' := by
  obtain ⟨ta, tc, rfl, tal, tax⟩ := hM.types.form
  have TA := Lib.hid tax
  obtain ⟨fa, fc, rfl, fal, fax⟩ := hM.funcs.form
  have FA := Lib.hid fax
  obtain ⟨ma, mc, rfl, mal, max⟩ := hM.memory.form
  have MA := Lib.hid max
  obtain ⟨ga, gc, rfl, gal, gax⟩ := hM.globals.form
  have GA := Lib.hid gax
  obtain ⟨ea, ec, rfl, eal, eax⟩ := hM.exports.form
  have EA := Lib.hid eax
  obtain ⟨da, dc, rfl, dal, dax⟩ := hM.data.form
  have DA := Lib.hid dax
  obtain rfl : st = m.start := hM.start
  have HO := Lib.hid hO
  have HANS := Lib.hid hA
  clear hM hO hA tax fax max gax eax dax
  have B0 := Lib.hid (show Below w.heap.size w (w.alloc (.cells #[.slice ta m.types.length tc, .slice fa m.funcs.length fc, .slice ma m.memory.length mc, .slice ga m.globals.length gc, .slice ea m.exports.length ec, .int .i64 m.start, .slice da m.data.length dc] 29)) from (Below.refl _ _).alloc (Nat.le_refl _) _)
  have hbox := heap_alloc_new w (.cells #[.slice ta m.types.length tc, .slice fa m.funcs.length fc, .slice ma m.memory.length mc, .slice ga m.globals.length gc, .slice ea m.exports.length ec, .int .i64 m.start, .slice da m.data.length dc] 29)
  obtain ⟨W1, hW1⟩ : ∃ W1, w.alloc (.cells #[.slice ta m.types.length tc, .slice fa m.funcs.length fc, .slice ma m.memory.length mc, .slice ga m.globals.length gc, .slice ea m.exports.length ec, .int .i64 m.start, .slice da m.data.length dc] 29) = W1 := ⟨_, rfl⟩
  rw [hW1] at B0 hbox
  have HBX := Lib.hid hbox
  have q0 := boxm_at hbox 0 _ rfl
  have q1 := boxm_at hbox 1 _ rfl
  have q2 := boxm_at hbox 2 _ rfl
  have q3 := boxm_at hbox 3 _ rfl
  have q4 := boxm_at hbox 4 _ rfl
  have q5 := boxm_at hbox 5 _ rfl
  have q6 := boxm_at hbox 6 _ rfl
  have HW1 := Lib.hid hW1
  clear hbox hW1
  unfold modV
  go_enter Tryz.func7, Tryz.ntmps7
  go_upto_region 1 with fail
  rw [HW1.out]
  by_cases c0 : 4096 < m.types.length
  · have z0 : decide ((4096 : Int) < (m.types.length : Int)) = true := decide_eq_true (by omega)
    have z0' : decide (4096 < m.types.length) = true := decide_eq_true c0
    have HF := Lib.hid (show ANS = false by rw [← HANS.out]; unfold rightM; rw [show allB m.types _ = false from allB_long c0]; simp)
    go_wp2_with fail
    go_ret
    exact ⟨by rw [HF.out]; rfl, B0.out⟩
  have z0 : decide ((4096 : Int) < (m.types.length : Int)) = false := decide_eq_false (by omega)
  have z0' : decide (4096 < m.types.length) = false := decide_eq_false c0
  by_cases c1 : 4096 < m.funcs.length
  · have z1 : decide ((4096 : Int) < (m.funcs.length : Int)) = true := decide_eq_true (by omega)
    have z1' : decide (4096 < m.funcs.length) = true := decide_eq_true c1
    have HF := Lib.hid (show ANS = false by rw [← HANS.out]; unfold rightM; rw [show allB m.funcs _ = false from allB_long c1]; simp)
    go_wp2_with fail
    go_ret
    exact ⟨by rw [HF.out]; rfl, B0.out⟩
  have z1 : decide ((4096 : Int) < (m.funcs.length : Int)) = false := decide_eq_false (by omega)
  have z1' : decide (4096 < m.funcs.length) = false := decide_eq_false c1
  by_cases c2 : 4096 < m.memory.length
  · have z2 : decide ((4096 : Int) < (m.memory.length : Int)) = true := decide_eq_true (by omega)
    have z2' : decide (4096 < m.memory.length) = true := decide_eq_true c2
    have HF := Lib.hid (show ANS = false by rw [← HANS.out]; unfold rightM; rw [show allB m.memory _ = false from allB_long c2]; simp)
    go_wp2_with fail
    go_ret
    exact ⟨by rw [HF.out]; rfl, B0.out⟩
  have z2 : decide ((4096 : Int) < (m.memory.length : Int)) = false := decide_eq_false (by omega)
  have z2' : decide (4096 < m.memory.length) = false := decide_eq_false c2
  by_cases c3 : 4096 < m.globals.length
  · have z3 : decide ((4096 : Int) < (m.globals.length : Int)) = true := decide_eq_true (by omega)
    have z3' : decide (4096 < m.globals.length) = true := decide_eq_true c3
    have HF := Lib.hid (show ANS = false by rw [← HANS.out]; unfold rightM; rw [show allB m.globals _ = false from allB_long c3]; simp)
    go_wp2_with fail
    go_ret
    exact ⟨by rw [HF.out]; rfl, B0.out⟩
  have z3 : decide ((4096 : Int) < (m.globals.length : Int)) = false := decide_eq_false (by omega)
  have z3' : decide (4096 < m.globals.length) = false := decide_eq_false c3
  by_cases c4 : 4096 < m.exports.length
  · have z4 : decide ((4096 : Int) < (m.exports.length : Int)) = true := decide_eq_true (by omega)
    have z4' : decide (4096 < m.exports.length) = true := decide_eq_true c4
    have HF := Lib.hid (show ANS = false by rw [← HANS.out]; unfold rightM; rw [show allB m.exports _ = false from allB_long c4]; simp)
    go_wp2_with fail
    go_ret
    exact ⟨by rw [HF.out]; rfl, B0.out⟩
  have z4 : decide ((4096 : Int) < (m.exports.length : Int)) = false := decide_eq_false (by omega)
  have z4' : decide (4096 < m.exports.length) = false := decide_eq_false c4
  by_cases c5 : 4096 < m.data.length
  · have z5 : decide ((4096 : Int) < (m.data.length : Int)) = true := decide_eq_true (by omega)
    have z5' : decide (4096 < m.data.length) = true := decide_eq_true c5
    have HF := Lib.hid (show ANS = false by rw [← HANS.out]; unfold rightM; rw [show allB m.data _ = false from allB_long c5]; simp)
    go_wp2_with fail
    go_ret
    exact ⟨by rw [HF.out]; rfl, B0.out⟩
  have z5 : decide ((4096 : Int) < (m.data.length : Int)) = false := decide_eq_false (by omega)
  have z5' : decide (4096 < m.data.length) = false := decide_eq_false c5
  have HLE := Lib.hid (show rightM m = ((m.start == -1 || wordB m.start) && (m.types.all rightFT && (m.funcs.all rightFunc && (m.memory.all rightMem && (m.globals.all rightGlob && (m.exports.all rightExp && m.data.all rightData)))))) by unfold rightM; rw [allB_short c0, allB_short c1, allB_short c2, allB_short c3, allB_short c4, allB_short c5])
  have hst : ((m.start == -1) = true ∧ (m.start != -1) = false) ∨ ((m.start == -1) = false ∧ (m.start != -1) = true ∧ wordB m.start = false) ∨ ((m.start == -1) = false ∧ (m.start != -1) = true ∧ wordB m.start = true) := by
    cases hs : (m.start == -1)
    · cases hw : wordB m.start
      · exact .inr (.inl ⟨rfl, by rw [bne, hs]; rfl, rfl⟩)
      · exact .inr (.inr ⟨rfl, by rw [bne, hs]; rfl, rfl⟩)
    · exact .inl ⟨rfl, by rw [bne, hs]; rfl⟩
  have HST := Lib.hid hst
  clear hst
  rcases HST.out with ⟨s1, s2⟩ | ⟨s1, s2, s3⟩ | ⟨s1, s2, s3⟩
  rotate_left
  · have HF := Lib.hid (show ANS = false by rw [← HANS.out, HLE.out, s1, s3]; rfl)
    have HS3 := Lib.hid s3
    clear s3
    go_wp2_with fail
    refine (rmword_any _ _ _ HS3.out).mono ?_
    rintro en w' ⟨rfl, rfl⟩
    go_wp2_with fail
    go_ret
    exact ⟨by rw [HF.out]; rfl, B0.out⟩
  · have HS3 := Lib.hid s3
    clear s3
    have HR := Lib.hid (show ANS = (m.types.all rightFT && (m.funcs.all rightFunc && (m.memory.all rightMem && (m.globals.all rightGlob && (m.exports.all rightExp && m.data.all rightData))))) by rw [← HANS.out, HLE.out, HS3.out, Bool.or_true, Bool.true_and])
    go_wp2_with fail
    refine (rmword_any _ _ _ HS3.out).mono ?_
    rintro en w' ⟨rfl, rfl⟩
    clear HS3
    go_wp2_with fail
    clear q0 q1 q2 q3 q4 q5 q6 z0 z1 z2 z3 z4 z5 z0' z1' z2' z3' z4' z5' s1 s2
    obtain ⟨V0, hV0⟩ : ∃ V : Bool, (true && m.types.all rightFT) = V := ⟨_, rfl⟩
    have HV0 := Lib.hid hV0
    clear hV0
    go_loopw [3, 4] (fun fn i wr => ∃ (k : Nat) (f : Bool), k ≤ m.types.length ∧ i = .int .i64 k ∧ fn = .bool f ∧ (f && (m.types.drop k).all rightFT) = V0 ∧ Below W1.heap.size W1 wr) (fun _ i _ => m.types.length + 1 - (Go.RowKit.intOf i).toNat)
    case atStart => exact ⟨0, true, Nat.zero_le _, rfl, rfl, HV0.out, Below.refl _ _⟩
    case round =>
      obtain ⟨k, f, hk, rfl, rfl, ha, hB⟩ := hrel
      have HA := Lib.hid ha
      have HB := Lib.hid hB
      have HB2 := Lib.hid (B0.out.trans (hB.mono B0.out.size))
      have hb9 := boxm_later hB HBX.out
      have q0 := boxm_at hb9 0 _ rfl
      clear ha hB hb9
      by_cases hlt : k < m.types.length
      · have hd : decide ((k : Int) < (m.types.length : Int)) = true := decide_eq_true (by omega)
        have hd2 : decide (k < m.types.length) = true := decide_eq_true hlt
        obtain ⟨x, hm⟩ : ∃ x, m.types[k]? = some x := ⟨_, List.getElem?_eq_getElem hlt⟩
        obtain ⟨r, hr, _, b, off, rfl, hb, hcell⟩ := TA.out k _ hm
        have HM := Lib.hid hm
        have HIN := Lib.hid (List.mem_of_getElem? hm)
        obtain ⟨rfl, hp1, hp2⟩ := hr
        obtain ⟨p, s⟩ := x
        change p.size ≤ _ at hp1
        change s.size ≤ _ at hp2
        have c0 : wr.cell? ⟨b, off + k * 2, none⟩ = some (.string p) := cell_later HB2.out (hcell 0 _ rfl)
        have c1 : wr.cell? ⟨b, off + k * 2 + 1, none⟩ = some (.string s) := cell_later HB2.out (hcell 1 _ rfl)
        clear hm hcell hb
        cases f
        · skip
          go_wp2_with fail
          go_roundw
          case rel => exact ⟨k + 1, _, by omega, by go_num, rfl, fine_step HA.out HM.out rfl, HB.out⟩
          case measure => simp [Go.RowKit.intOf]; omega
        · obtain ⟨T, hT⟩ : ∃ T, typesB p 4096 = T := ⟨_, rfl⟩
          obtain ⟨U, hU⟩ : ∃ U, typesB s 1 = U := ⟨_, rfl⟩
          have HT := Lib.hid hT
          have HU := Lib.hid hU
          clear hT hU
          go_wp2_with fail
          refine (rmtypes_any p 4096 _ hp1 T HT.out).mono ?_
          rintro en w' ⟨rfl, rfl⟩
          cases T
          · skip
            go_wp2_with fail
            go_roundw
            case rel => exact ⟨k + 1, _, by omega, by go_num, rfl, fine_step HA.out HM.out (by show (true && (typesB p 4096 && typesB s 1)) = _; rw [HT.out]; rfl), HB.out⟩
            case measure => simp [Go.RowKit.intOf]; omega
          · go_wp2_with fail
            refine (rmtypes_any s 1 _ hp2 U HU.out).mono ?_
            rintro en w' ⟨rfl, rfl⟩
            cases U
            all_goals
              go_wp2_with fail
              go_roundw
              case rel => exact ⟨k + 1, _, by omega, by go_num, rfl, fine_step HA.out HM.out (by show (true && (typesB p 4096 && typesB s 1)) = _; rw [HT.out, HU.out]; rfl), HB.out⟩
              case measure => simp [Go.RowKit.intOf]; omega
      · obtain rfl : k = m.types.length := by omega
        have hd : decide ((m.types.length : Int) < (m.types.length : Int)) = false := by simp
        have hd2 : decide (m.types.length < m.types.length) = false := by simp
        have HE0 := Lib.hid (fine_end HA.out)
        have HBE0 := Lib.hid HB.out
        obtain ⟨w3, rfl⟩ : ∃ w3, w3 = wr := ⟨_, rfl⟩
        obtain ⟨f0, hf0⟩ : ∃ f0, f0 = f := ⟨_, rfl⟩
        subst hf0
        clear HA HB HB2
        go_wp2_with fail
        clear hd hd2 q0
        obtain ⟨V1, hV1⟩ : ∃ V : Bool, (f0 && m.funcs.all rightFunc) = V := ⟨_, rfl⟩
        have HV1 := Lib.hid hV1
        clear hV1
        go_loopw [3, 5] (fun fn i wr => ∃ (k : Nat) (f : Bool), k ≤ m.funcs.length ∧ i = .int .i64 k ∧ fn = .bool f ∧ (f && (m.funcs.drop k).all rightFunc) = V1 ∧ Below W1.heap.size W1 wr) (fun _ i _ => m.funcs.length + 1 - (Go.RowKit.intOf i).toNat)
        case atStart => exact ⟨0, f0, Nat.zero_le _, rfl, rfl, HV1.out, HBE0.out⟩
        case round =>
          obtain ⟨k, f, hk, rfl, rfl, ha, hB⟩ := hrel
          have HA := Lib.hid ha
          have HB := Lib.hid hB
          have HB2 := Lib.hid (B0.out.trans (hB.mono B0.out.size))
          have hb9 := boxm_later hB HBX.out
          have q1 := boxm_at hb9 1 _ rfl
          clear ha hB hb9
          by_cases hlt : k < m.funcs.length
          · have hd : decide ((k : Int) < (m.funcs.length : Int)) = true := decide_eq_true (by omega)
            have hd2 : decide (k < m.funcs.length) = true := decide_eq_true hlt
            obtain ⟨x, hm⟩ : ∃ x, m.funcs[k]? = some x := ⟨_, List.getElem?_eq_getElem hlt⟩
            obtain ⟨r, hr, _, b, off, rfl, hb, hcell⟩ := FA.out k _ hm
            have HM := Lib.hid hm
            have HIN := Lib.hid (List.mem_of_getElem? hm)
            obtain ⟨ty, ls, code⟩ := x
            obtain ⟨cv, rfl, hcd, hls, hroom⟩ := hr
            change ls.size ≤ _ at hls
            change code.length * 48 ≤ _ at hroom
            have HCD := Lib.hid hcd
            obtain ⟨cla, ccp, rfl, _⟩ := ListAt.form hcd
            have c0 : wr.cell? ⟨b, off + k * 3, none⟩ = some (.int .i64 ty) := cell_later HB2.out (hcell 0 _ rfl)
            have c1 : wr.cell? ⟨b, off + k * 3 + 1, none⟩ = some (.string ls) := cell_later HB2.out (hcell 1 _ rfl)
            have c2 : wr.cell? ⟨b, off + k * 3 + 2, none⟩ = some (.slice cla code.length ccp) := cell_later HB2.out (hcell 2 _ rfl)
            have HLB := Lib.hid (show LabN code from fun y hy => by have h9 := ((HO.out.funcs _ HIN.out).code y hy).len; omega)
            obtain ⟨T, hT⟩ : ∃ T, rightFunc ⟨ty, ls, code⟩ = T := ⟨_, rfl⟩
            have HT := Lib.hid hT
            have HC := Lib.hid (rfunc_any ty ls (.slice cla code.length ccp) code wr (ListAt.later lasts_ins HCD.out HB2.out) HLB.out hls hroom T hT)
            clear hm hcell hb hT hcd
            go_wp2_with fail
            refine HC.out.mono ?_
            rintro en w2 ⟨rfl, e2⟩
            have HB3 := Lib.hid (HB.out.trans (e2.mono HB.out.size))
            clear e2 c0 c1 c2 q1
            cases f <;> cases T
            all_goals
              go_wp2_with fail
              go_roundw
              case rel => exact ⟨k + 1, _, by omega, by go_num, rfl, fine_step HA.out HM.out (by rw [HT.out]; rfl), HB3.out⟩
              case measure => simp [Go.RowKit.intOf]; omega
          · obtain rfl : k = m.funcs.length := by omega
            have hd : decide ((m.funcs.length : Int) < (m.funcs.length : Int)) = false := by simp
            have hd2 : decide (m.funcs.length < m.funcs.length) = false := by simp
            have HE1 := Lib.hid (fine_end HA.out)
            have HBE1 := Lib.hid HB.out
            obtain ⟨w4, rfl⟩ : ∃ w4, w4 = wr := ⟨_, rfl⟩
            obtain ⟨f1, hf1⟩ : ∃ f1, f1 = f := ⟨_, rfl⟩
            subst hf1
            clear HA HB HB2
            go_wp2_with fail
            clear hd hd2 q1
            obtain ⟨V2, hV2⟩ : ∃ V : Bool, (f1 && m.memory.all rightMem) = V := ⟨_, rfl⟩
            have HV2 := Lib.hid hV2
            clear hV2
            go_loopw [3, 7] (fun fn i wr => ∃ (k : Nat) (f : Bool), k ≤ m.memory.length ∧ i = .int .i64 k ∧ fn = .bool f ∧ (f && (m.memory.drop k).all rightMem) = V2 ∧ Below W1.heap.size W1 wr) (fun _ i _ => m.memory.length + 1 - (Go.RowKit.intOf i).toNat)
            case atStart => exact ⟨0, f1, Nat.zero_le _, rfl, rfl, HV2.out, HBE1.out⟩
            case round =>
              obtain ⟨k, f, hk, rfl, rfl, ha, hB⟩ := hrel
              have HA := Lib.hid ha
              have HB := Lib.hid hB
              have HB2 := Lib.hid (B0.out.trans (hB.mono B0.out.size))
              have hb9 := boxm_later hB HBX.out
              have q2 := boxm_at hb9 2 _ rfl
              clear ha hB hb9
              by_cases hlt : k < m.memory.length
              · have hd : decide ((k : Int) < (m.memory.length : Int)) = true := decide_eq_true (by omega)
                have hd2 : decide (k < m.memory.length) = true := decide_eq_true hlt
                obtain ⟨x, hm⟩ : ∃ x, m.memory[k]? = some x := ⟨_, List.getElem?_eq_getElem hlt⟩
                obtain ⟨r, hr, _, b, off, rfl, hb, hcell⟩ := MA.out k _ hm
                have HM := Lib.hid hm
                have HIN := Lib.hid (List.mem_of_getElem? hm)
                obtain ⟨lo, hi⟩ := x
                have hr : r = [.int .i64 lo, .int .i64 hi] := hr
                subst hr
                have c0 : wr.cell? ⟨b, off + k * 2, none⟩ = some (.int .i64 lo) := cell_later HB2.out (hcell 0 _ rfl)
                have c1 : wr.cell? ⟨b, off + k * 2 + 1, none⟩ = some (.int .i64 hi) := cell_later HB2.out (hcell 1 _ rfl)
                clear hm hcell hb
                cases f
                · skip
                  go_wp2_with fail
                  go_roundw
                  case rel => exact ⟨k + 1, _, by omega, by go_num, rfl, fine_step HA.out HM.out rfl, HB.out⟩
                  case measure => simp [Go.RowKit.intOf]; omega
                · obtain ⟨T, hT⟩ : ∃ T, wordB lo = T := ⟨_, rfl⟩
                  obtain ⟨U, hU⟩ : ∃ U, wordB hi = U := ⟨_, rfl⟩
                  obtain ⟨X, hX⟩ : ∃ X, (hi == -1) = X := ⟨_, rfl⟩
                  have HT := Lib.hid hT
                  have HU := Lib.hid hU
                  have HX := Lib.hid hX
                  clear hT hU
                  go_wp2_with fail
                  refine (rmword_any lo _ T HT.out).mono ?_
                  rintro en w' ⟨rfl, rfl⟩
                  cases T
                  · skip
                    go_wp2_with fail
                    go_roundw
                    case rel => exact ⟨k + 1, _, by omega, by go_num, rfl, fine_step HA.out HM.out (by show (true && (wordB lo && (hi == -1 || wordB hi))) = _; rw [HT.out]; rfl), HB.out⟩
                    case measure => simp [Go.RowKit.intOf]; omega
                  · cases X
                    · go_wp2_with fail
                      refine (rmword_any hi _ U HU.out).mono ?_
                      rintro en w' ⟨rfl, rfl⟩
                      cases U
                      all_goals
                        go_wp2_with fail
                        go_roundw
                        case rel => exact ⟨k + 1, _, by omega, by go_num, rfl, fine_step HA.out HM.out (by show (true && (wordB lo && (hi == -1 || wordB hi))) = _; rw [HT.out, HX.out, HU.out]; rfl), HB.out⟩
                        case measure => simp [Go.RowKit.intOf]; omega
                    · skip
                      go_wp2_with fail
                      go_roundw
                      case rel => exact ⟨k + 1, _, by omega, by go_num, rfl, fine_step HA.out HM.out (by show (true && (wordB lo && (hi == -1 || wordB hi))) = _; rw [HT.out, HX.out]; rfl), HB.out⟩
                      case measure => simp [Go.RowKit.intOf]; omega
              · obtain rfl : k = m.memory.length := by omega
                have hd : decide ((m.memory.length : Int) < (m.memory.length : Int)) = false := by simp
                have hd2 : decide (m.memory.length < m.memory.length) = false := by simp
                have HE2 := Lib.hid (fine_end HA.out)
                have HBE2 := Lib.hid HB.out
                obtain ⟨w5, rfl⟩ : ∃ w5, w5 = wr := ⟨_, rfl⟩
                obtain ⟨f2, hf2⟩ : ∃ f2, f2 = f := ⟨_, rfl⟩
                subst hf2
                clear HA HB HB2
                go_wp2_with fail
                clear hd hd2 q2
                obtain ⟨V3, hV3⟩ : ∃ V : Bool, (f2 && m.globals.all rightGlob) = V := ⟨_, rfl⟩
                have HV3 := Lib.hid hV3
                clear hV3
                go_loopw [3, 8] (fun fn i wr => ∃ (k : Nat) (f : Bool), k ≤ m.globals.length ∧ i = .int .i64 k ∧ fn = .bool f ∧ (f && (m.globals.drop k).all rightGlob) = V3 ∧ Below W1.heap.size W1 wr) (fun _ i _ => m.globals.length + 1 - (Go.RowKit.intOf i).toNat)
                case atStart => exact ⟨0, f2, Nat.zero_le _, rfl, rfl, HV3.out, HBE2.out⟩
                case round =>
                  obtain ⟨k, f, hk, rfl, rfl, ha, hB⟩ := hrel
                  have HA := Lib.hid ha
                  have HB := Lib.hid hB
                  have HB2 := Lib.hid (B0.out.trans (hB.mono B0.out.size))
                  have hb9 := boxm_later hB HBX.out
                  have q3 := boxm_at hb9 3 _ rfl
                  clear ha hB hb9
                  by_cases hlt : k < m.globals.length
                  · have hd : decide ((k : Int) < (m.globals.length : Int)) = true := decide_eq_true (by omega)
                    have hd2 : decide (k < m.globals.length) = true := decide_eq_true hlt
                    obtain ⟨x, hm⟩ : ∃ x, m.globals[k]? = some x := ⟨_, List.getElem?_eq_getElem hlt⟩
                    obtain ⟨r, hr, _, b, off, rfl, hb, hcell⟩ := GA.out k _ hm
                    have HM := Lib.hid hm
                    have HIN := Lib.hid (List.mem_of_getElem? hm)
                    obtain ⟨ty, mu, n⟩ := x
                    have hr : r = [.int .i64 ty, .bool mu, .int .i64 n] := hr
                    subst hr
                    have c0 : wr.cell? ⟨b, off + k * 3, none⟩ = some (.int .i64 ty) := cell_later HB2.out (hcell 0 _ rfl)
                    have c1 : wr.cell? ⟨b, off + k * 3 + 1, none⟩ = some (.bool mu) := cell_later HB2.out (hcell 1 _ rfl)
                    have c2 : wr.cell? ⟨b, off + k * 3 + 2, none⟩ = some (.int .i64 n) := cell_later HB2.out (hcell 2 _ rfl)
                    clear hm hcell hb
                    have HB3 := Lib.hid (HB.out.alloc HB.out.size (.cells #[.int .i64 ty, .bool mu, .int .i64 n] 63))
                    obtain ⟨T, hT⟩ : ∃ T, (n == wrap32 n) = T := ⟨_, rfl⟩
                    have HT := Lib.hid hT
                    clear hT
                    obtain ⟨X, hX⟩ : ∃ X, (ty == 126) = X := ⟨_, rfl⟩
                    obtain ⟨Y, hY⟩ : ∃ Y, (ty == 127) = Y := ⟨_, rfl⟩
                    have HX := Lib.hid hX
                    have HY := Lib.hid hY
                    cases f
                    · skip
                      go_wp2_with fail
                      go_roundw
                      case rel => exact ⟨k + 1, _, by omega, by go_num, rfl, fine_step HA.out HM.out rfl, HB3.out⟩
                      case measure => simp [Go.RowKit.intOf]; omega
                    · cases X
                      · cases Y
                        · skip
                          go_wp2_with fail
                          go_roundw
                          case rel => exact ⟨k + 1, _, by omega, by go_num, rfl, fine_step HA.out HM.out (by show (_ && (ty == 126 || (ty == 127 && n == wrap32 n))) = _; rw [HX.out, HY.out]; rfl), HB3.out⟩
                          case measure => simp [Go.RowKit.intOf]; omega
                        · go_wp2_with fail
                          refine (rsmall_any n _ T HT.out).mono ?_
                          rintro en w' ⟨rfl, rfl⟩
                          cases T
                          all_goals
                            go_wp2_with fail
                            go_roundw
                            case rel => exact ⟨k + 1, _, by omega, by go_num, rfl, fine_step HA.out HM.out (by show (_ && (ty == 126 || (ty == 127 && n == wrap32 n))) = _; rw [HX.out, HY.out, HT.out]; rfl), HB3.out⟩
                            case measure => simp [Go.RowKit.intOf]; omega
                      · skip
                        go_wp2_with fail
                        go_roundw
                        case rel => exact ⟨k + 1, _, by omega, by go_num, rfl, fine_step HA.out HM.out (by show (_ && (ty == 126 || (ty == 127 && n == wrap32 n))) = _; rw [HX.out]; rfl), HB3.out⟩
                        case measure => simp [Go.RowKit.intOf]; omega
                  · obtain rfl : k = m.globals.length := by omega
                    have hd : decide ((m.globals.length : Int) < (m.globals.length : Int)) = false := by simp
                    have hd2 : decide (m.globals.length < m.globals.length) = false := by simp
                    have HE3 := Lib.hid (fine_end HA.out)
                    have HBE3 := Lib.hid HB.out
                    obtain ⟨w6, rfl⟩ : ∃ w6, w6 = wr := ⟨_, rfl⟩
                    obtain ⟨f3, hf3⟩ : ∃ f3, f3 = f := ⟨_, rfl⟩
                    subst hf3
                    clear HA HB HB2
                    go_wp2_with fail
                    clear hd hd2 q3
                    obtain ⟨V4, hV4⟩ : ∃ V : Bool, (f3 && m.exports.all rightExp) = V := ⟨_, rfl⟩
                    have HV4 := Lib.hid hV4
                    clear hV4
                    go_loopw [3, 10] (fun fn i wr => ∃ (k : Nat) (f : Bool), k ≤ m.exports.length ∧ i = .int .i64 k ∧ fn = .bool f ∧ (f && (m.exports.drop k).all rightExp) = V4 ∧ Below W1.heap.size W1 wr) (fun _ i _ => m.exports.length + 1 - (Go.RowKit.intOf i).toNat)
                    case atStart => exact ⟨0, f3, Nat.zero_le _, rfl, rfl, HV4.out, HBE3.out⟩
                    case round =>
                      obtain ⟨k, f, hk, rfl, rfl, ha, hB⟩ := hrel
                      have HA := Lib.hid ha
                      have HB := Lib.hid hB
                      have HB2 := Lib.hid (B0.out.trans (hB.mono B0.out.size))
                      have hb9 := boxm_later hB HBX.out
                      have q4 := boxm_at hb9 4 _ rfl
                      clear ha hB hb9
                      by_cases hlt : k < m.exports.length
                      · have hd : decide ((k : Int) < (m.exports.length : Int)) = true := decide_eq_true (by omega)
                        have hd2 : decide (k < m.exports.length) = true := decide_eq_true hlt
                        obtain ⟨x, hm⟩ : ∃ x, m.exports[k]? = some x := ⟨_, List.getElem?_eq_getElem hlt⟩
                        obtain ⟨r, hr, _, b, off, rfl, hb, hcell⟩ := EA.out k _ hm
                        have HM := Lib.hid hm
                        have HIN := Lib.hid (List.mem_of_getElem? hm)
                        obtain ⟨nm, kd, ix⟩ := x
                        obtain ⟨rfl, hns⟩ := hr
                        change nm.size ≤ _ at hns
                        have hnm : nm.size ≤ 140737488355328 := by have h9 : nm.size ≤ 140737488351232 := (HO.out.exp _ HIN.out).2.2; omega
                        have c0 : wr.cell? ⟨b, off + k * 3, none⟩ = some (.string nm) := cell_later HB2.out (hcell 0 _ rfl)
                        have c1 : wr.cell? ⟨b, off + k * 3 + 1, none⟩ = some (.int .i64 kd) := cell_later HB2.out (hcell 1 _ rfl)
                        have c2 : wr.cell? ⟨b, off + k * 3 + 2, none⟩ = some (.int .i64 ix) := cell_later HB2.out (hcell 2 _ rfl)
                        clear hm hcell hb
                        have HB3 := Lib.hid (HB.out.alloc HB.out.size (.cells #[.string nm, .int .i64 kd, .int .i64 ix] 67))
                        obtain ⟨T, hT⟩ : ∃ T, nameB nm = T := ⟨_, rfl⟩
                        have HT := Lib.hid hT
                        clear hT
                        obtain ⟨U, hU⟩ : ∃ U, wordB ix = U := ⟨_, rfl⟩
                        have HU := Lib.hid hU
                        clear hU
                        obtain ⟨X, hX⟩ : ∃ X, (kd == 0) = X := ⟨_, rfl⟩
                        have HX := Lib.hid hX
                        obtain ⟨Y, hY⟩ : ∃ Y, (kd == 2) = Y := ⟨_, rfl⟩
                        have HY := Lib.hid hY
                        obtain ⟨Z, hZ⟩ : ∃ Z, (kd == 3) = Z := ⟨_, rfl⟩
                        have HZ := Lib.hid hZ
                        go_wp2_with fail
                        refine (rname_any nm _ hnm T HT.out).mono ?_
                        rintro en w' ⟨rfl, rfl⟩
                        cases f
                        · skip
                          go_wp2_with fail
                          go_roundw
                          case rel => exact ⟨k + 1, _, by omega, by go_num, rfl, fine_step HA.out HM.out rfl, HB3.out⟩
                          case measure => simp [Go.RowKit.intOf]; omega
                        · cases T
                          · skip
                            go_wp2_with fail
                            go_roundw
                            case rel => exact ⟨k + 1, _, by omega, by go_num, rfl, fine_step HA.out HM.out (by show (_ && (nameB nm && ((kd == 0 || (kd == 2 || kd == 3)) && wordB ix))) = _; rw [HT.out]; rfl), HB3.out⟩
                            case measure => simp [Go.RowKit.intOf]; omega
                          · cases X
                            · cases Y
                              · cases Z
                                · skip
                                  go_wp2_with fail
                                  go_roundw
                                  case rel => exact ⟨k + 1, _, by omega, by go_num, rfl, fine_step HA.out HM.out (by show (_ && (nameB nm && ((kd == 0 || (kd == 2 || kd == 3)) && wordB ix))) = _; rw [HT.out, HX.out, HY.out, HZ.out]; rfl), HB3.out⟩
                                  case measure => simp [Go.RowKit.intOf]; omega
                                · skip
                                  go_wp2_with fail
                                  refine (rmword_any ix _ U HU.out).mono ?_
                                  rintro en w' ⟨rfl, rfl⟩
                                  cases U
                                  all_goals
                                    go_wp2_with fail
                                    go_roundw
                                    case rel => exact ⟨k + 1, _, by omega, by go_num, rfl, fine_step HA.out HM.out (by show (_ && (nameB nm && ((kd == 0 || (kd == 2 || kd == 3)) && wordB ix))) = _; rw [HT.out, HX.out, HY.out, HZ.out, HU.out]; rfl), HB3.out⟩
                                    case measure => simp [Go.RowKit.intOf]; omega
                              · skip
                                go_wp2_with fail
                                refine (rmword_any ix _ U HU.out).mono ?_
                                rintro en w' ⟨rfl, rfl⟩
                                cases U
                                all_goals
                                  go_wp2_with fail
                                  go_roundw
                                  case rel => exact ⟨k + 1, _, by omega, by go_num, rfl, fine_step HA.out HM.out (by show (_ && (nameB nm && ((kd == 0 || (kd == 2 || kd == 3)) && wordB ix))) = _; rw [HT.out, HX.out, HY.out, HU.out]; rfl), HB3.out⟩
                                  case measure => simp [Go.RowKit.intOf]; omega
                            · skip
                              go_wp2_with fail
                              refine (rmword_any ix _ U HU.out).mono ?_
                              rintro en w' ⟨rfl, rfl⟩
                              cases U
                              all_goals
                                go_wp2_with fail
                                go_roundw
                                case rel => exact ⟨k + 1, _, by omega, by go_num, rfl, fine_step HA.out HM.out (by show (_ && (nameB nm && ((kd == 0 || (kd == 2 || kd == 3)) && wordB ix))) = _; rw [HT.out, HX.out, HU.out]; rfl), HB3.out⟩
                                case measure => simp [Go.RowKit.intOf]; omega
                      · obtain rfl : k = m.exports.length := by omega
                        have hd : decide ((m.exports.length : Int) < (m.exports.length : Int)) = false := by simp
                        have hd2 : decide (m.exports.length < m.exports.length) = false := by simp
                        have HE4 := Lib.hid (fine_end HA.out)
                        have HBE4 := Lib.hid HB.out
                        obtain ⟨w7, rfl⟩ : ∃ w7, w7 = wr := ⟨_, rfl⟩
                        obtain ⟨f4, hf4⟩ : ∃ f4, f4 = f := ⟨_, rfl⟩
                        subst hf4
                        clear HA HB HB2
                        go_wp2_with fail
                        clear hd hd2 q4
                        obtain ⟨V5, hV5⟩ : ∃ V : Bool, (f4 && m.data.all rightData) = V := ⟨_, rfl⟩
                        have HV5 := Lib.hid hV5
                        clear hV5
                        go_loopw [3, 13] (fun fn i wr => ∃ (k : Nat) (f : Bool), k ≤ m.data.length ∧ i = .int .i64 k ∧ fn = .bool f ∧ (f && (m.data.drop k).all rightData) = V5 ∧ Below W1.heap.size W1 wr) (fun _ i _ => m.data.length + 1 - (Go.RowKit.intOf i).toNat)
                        case atStart => exact ⟨0, f4, Nat.zero_le _, rfl, rfl, HV5.out, HBE4.out⟩
                        case round =>
                          obtain ⟨k, f, hk, rfl, rfl, ha, hB⟩ := hrel
                          have HA := Lib.hid ha
                          have HB := Lib.hid hB
                          have HB2 := Lib.hid (B0.out.trans (hB.mono B0.out.size))
                          have hb9 := boxm_later hB HBX.out
                          have q6 := boxm_at hb9 6 _ rfl
                          clear ha hB hb9
                          by_cases hlt : k < m.data.length
                          · have hd : decide ((k : Int) < (m.data.length : Int)) = true := decide_eq_true (by omega)
                            have hd2 : decide (k < m.data.length) = true := decide_eq_true hlt
                            obtain ⟨x, hm⟩ : ∃ x, m.data[k]? = some x := ⟨_, List.getElem?_eq_getElem hlt⟩
                            obtain ⟨r, hr, _, b, off, rfl, hb, hcell⟩ := DA.out k _ hm
                            have HM := Lib.hid hm
                            have HIN := Lib.hid (List.mem_of_getElem? hm)
                            obtain ⟨of, bs⟩ := x
                            obtain ⟨rfl, hns⟩ := hr
                            have c0 : wr.cell? ⟨b, off + k * 2, none⟩ = some (.int .i64 of) := cell_later HB2.out (hcell 0 _ rfl)
                            have c1 : wr.cell? ⟨b, off + k * 2 + 1, none⟩ = some (.string bs) := cell_later HB2.out (hcell 1 _ rfl)
                            clear hm hcell hb hns
                            obtain ⟨T, hT⟩ : ∃ T, (of == wrap32 of) = T := ⟨_, rfl⟩
                            have HT := Lib.hid hT
                            clear hT
                            cases f
                            · skip
                              go_wp2_with fail
                              go_roundw
                              case rel => exact ⟨k + 1, _, by omega, by go_num, rfl, fine_step HA.out HM.out rfl, HB.out⟩
                              case measure => simp [Go.RowKit.intOf]; omega
                            · go_wp2_with fail
                              refine (rsmall_any of _ T HT.out).mono ?_
                              rintro en w' ⟨rfl, rfl⟩
                              cases T
                              all_goals
                                go_wp2_with fail
                                go_roundw
                                case rel => exact ⟨k + 1, _, by omega, by go_num, rfl, fine_step HA.out HM.out (by show (_ && (of == wrap32 of)) = _; rw [HT.out]; rfl), HB.out⟩
                                case measure => simp [Go.RowKit.intOf]; omega
                          · obtain rfl : k = m.data.length := by omega
                            have hd : decide ((m.data.length : Int) < (m.data.length : Int)) = false := by simp
                            have hd2 : decide (m.data.length < m.data.length) = false := by simp
                            have HE5 := Lib.hid (fine_end HA.out)
                            have HBE5 := Lib.hid HB.out
                            obtain ⟨w8, rfl⟩ : ∃ w8, w8 = wr := ⟨_, rfl⟩
                            obtain ⟨f5, hf5⟩ : ∃ f5, f5 = f := ⟨_, rfl⟩
                            subst hf5
                            clear HA HB HB2
                            have HFIN := Lib.hid (show ANS = f5 by rw [HE5.out, HR.out, ← HV5.out, HE4.out, ← HV4.out, HE3.out, ← HV3.out, HE2.out, ← HV2.out, HE1.out, ← HV1.out, HE0.out, ← HV0.out]; simp only [Bool.true_and, Bool.and_assoc])
                            go_wp2_with fail
                            go_ret
                            exact ⟨by rw [HFIN.out]; rfl, B0.out.trans (HBE5.out.mono B0.out.size)⟩
  · have HR := Lib.hid (show ANS = (m.types.all rightFT && (m.funcs.all rightFunc && (m.memory.all rightMem && (m.globals.all rightGlob && (m.exports.all rightExp && m.data.all rightData))))) by rw [← HANS.out, HLE.out, s1, Bool.true_or, Bool.true_and])
    go_wp2_with fail
    clear q0 q1 q2 q3 q4 q5 q6 z0 z1 z2 z3 z4 z5 z0' z1' z2' z3' z4' z5' s1 s2
    obtain ⟨V0, hV0⟩ : ∃ V : Bool, (true && m.types.all rightFT) = V := ⟨_, rfl⟩
    have HV0 := Lib.hid hV0
    clear hV0
    go_loopw [3, 4] (fun fn i wr => ∃ (k : Nat) (f : Bool), k ≤ m.types.length ∧ i = .int .i64 k ∧ fn = .bool f ∧ (f && (m.types.drop k).all rightFT) = V0 ∧ Below W1.heap.size W1 wr) (fun _ i _ => m.types.length + 1 - (Go.RowKit.intOf i).toNat)
    case atStart => exact ⟨0, true, Nat.zero_le _, rfl, rfl, HV0.out, Below.refl _ _⟩
    case round =>
      obtain ⟨k, f, hk, rfl, rfl, ha, hB⟩ := hrel
      have HA := Lib.hid ha
      have HB := Lib.hid hB
      have HB2 := Lib.hid (B0.out.trans (hB.mono B0.out.size))
      have hb9 := boxm_later hB HBX.out
      have q0 := boxm_at hb9 0 _ rfl
      clear ha hB hb9
      by_cases hlt : k < m.types.length
      · have hd : decide ((k : Int) < (m.types.length : Int)) = true := decide_eq_true (by omega)
        have hd2 : decide (k < m.types.length) = true := decide_eq_true hlt
        obtain ⟨x, hm⟩ : ∃ x, m.types[k]? = some x := ⟨_, List.getElem?_eq_getElem hlt⟩
        obtain ⟨r, hr, _, b, off, rfl, hb, hcell⟩ := TA.out k _ hm
        have HM := Lib.hid hm
        have HIN := Lib.hid (List.mem_of_getElem? hm)
        obtain ⟨rfl, hp1, hp2⟩ := hr
        obtain ⟨p, s⟩ := x
        change p.size ≤ _ at hp1
        change s.size ≤ _ at hp2
        have c0 : wr.cell? ⟨b, off + k * 2, none⟩ = some (.string p) := cell_later HB2.out (hcell 0 _ rfl)
        have c1 : wr.cell? ⟨b, off + k * 2 + 1, none⟩ = some (.string s) := cell_later HB2.out (hcell 1 _ rfl)
        clear hm hcell hb
        cases f
        · skip
          go_wp2_with fail
          go_roundw
          case rel => exact ⟨k + 1, _, by omega, by go_num, rfl, fine_step HA.out HM.out rfl, HB.out⟩
          case measure => simp [Go.RowKit.intOf]; omega
        · obtain ⟨T, hT⟩ : ∃ T, typesB p 4096 = T := ⟨_, rfl⟩
          obtain ⟨U, hU⟩ : ∃ U, typesB s 1 = U := ⟨_, rfl⟩
          have HT := Lib.hid hT
          have HU := Lib.hid hU
          clear hT hU
          go_wp2_with fail
          refine (rmtypes_any p 4096 _ hp1 T HT.out).mono ?_
          rintro en w' ⟨rfl, rfl⟩
          cases T
          · skip
            go_wp2_with fail
            go_roundw
            case rel => exact ⟨k + 1, _, by omega, by go_num, rfl, fine_step HA.out HM.out (by show (true && (typesB p 4096 && typesB s 1)) = _; rw [HT.out]; rfl), HB.out⟩
            case measure => simp [Go.RowKit.intOf]; omega
          · go_wp2_with fail
            refine (rmtypes_any s 1 _ hp2 U HU.out).mono ?_
            rintro en w' ⟨rfl, rfl⟩
            cases U
            all_goals
              go_wp2_with fail
              go_roundw
              case rel => exact ⟨k + 1, _, by omega, by go_num, rfl, fine_step HA.out HM.out (by show (true && (typesB p 4096 && typesB s 1)) = _; rw [HT.out, HU.out]; rfl), HB.out⟩
              case measure => simp [Go.RowKit.intOf]; omega
      · obtain rfl : k = m.types.length := by omega
        have hd : decide ((m.types.length : Int) < (m.types.length : Int)) = false := by simp
        have hd2 : decide (m.types.length < m.types.length) = false := by simp
        have HE0 := Lib.hid (fine_end HA.out)
        have HBE0 := Lib.hid HB.out
        obtain ⟨w3, rfl⟩ : ∃ w3, w3 = wr := ⟨_, rfl⟩
        obtain ⟨f0, hf0⟩ : ∃ f0, f0 = f := ⟨_, rfl⟩
        subst hf0
        clear HA HB HB2
        go_wp2_with fail
        clear hd hd2 q0
        obtain ⟨V1, hV1⟩ : ∃ V : Bool, (f0 && m.funcs.all rightFunc) = V := ⟨_, rfl⟩
        have HV1 := Lib.hid hV1
        clear hV1
        go_loopw [3, 5] (fun fn i wr => ∃ (k : Nat) (f : Bool), k ≤ m.funcs.length ∧ i = .int .i64 k ∧ fn = .bool f ∧ (f && (m.funcs.drop k).all rightFunc) = V1 ∧ Below W1.heap.size W1 wr) (fun _ i _ => m.funcs.length + 1 - (Go.RowKit.intOf i).toNat)
        case atStart => exact ⟨0, f0, Nat.zero_le _, rfl, rfl, HV1.out, HBE0.out⟩
        case round =>
          obtain ⟨k, f, hk, rfl, rfl, ha, hB⟩ := hrel
          have HA := Lib.hid ha
          have HB := Lib.hid hB
          have HB2 := Lib.hid (B0.out.trans (hB.mono B0.out.size))
          have hb9 := boxm_later hB HBX.out
          have q1 := boxm_at hb9 1 _ rfl
          clear ha hB hb9
          by_cases hlt : k < m.funcs.length
          · have hd : decide ((k : Int) < (m.funcs.length : Int)) = true := decide_eq_true (by omega)
            have hd2 : decide (k < m.funcs.length) = true := decide_eq_true hlt
            obtain ⟨x, hm⟩ : ∃ x, m.funcs[k]? = some x := ⟨_, List.getElem?_eq_getElem hlt⟩
            obtain ⟨r, hr, _, b, off, rfl, hb, hcell⟩ := FA.out k _ hm
            have HM := Lib.hid hm
            have HIN := Lib.hid (List.mem_of_getElem? hm)
            obtain ⟨ty, ls, code⟩ := x
            obtain ⟨cv, rfl, hcd, hls, hroom⟩ := hr
            change ls.size ≤ _ at hls
            change code.length * 48 ≤ _ at hroom
            have HCD := Lib.hid hcd
            obtain ⟨cla, ccp, rfl, _⟩ := ListAt.form hcd
            have c0 : wr.cell? ⟨b, off + k * 3, none⟩ = some (.int .i64 ty) := cell_later HB2.out (hcell 0 _ rfl)
            have c1 : wr.cell? ⟨b, off + k * 3 + 1, none⟩ = some (.string ls) := cell_later HB2.out (hcell 1 _ rfl)
            have c2 : wr.cell? ⟨b, off + k * 3 + 2, none⟩ = some (.slice cla code.length ccp) := cell_later HB2.out (hcell 2 _ rfl)
            have HLB := Lib.hid (show LabN code from fun y hy => by have h9 := ((HO.out.funcs _ HIN.out).code y hy).len; omega)
            obtain ⟨T, hT⟩ : ∃ T, rightFunc ⟨ty, ls, code⟩ = T := ⟨_, rfl⟩
            have HT := Lib.hid hT
            have HC := Lib.hid (rfunc_any ty ls (.slice cla code.length ccp) code wr (ListAt.later lasts_ins HCD.out HB2.out) HLB.out hls hroom T hT)
            clear hm hcell hb hT hcd
            go_wp2_with fail
            refine HC.out.mono ?_
            rintro en w2 ⟨rfl, e2⟩
            have HB3 := Lib.hid (HB.out.trans (e2.mono HB.out.size))
            clear e2 c0 c1 c2 q1
            cases f <;> cases T
            all_goals
              go_wp2_with fail
              go_roundw
              case rel => exact ⟨k + 1, _, by omega, by go_num, rfl, fine_step HA.out HM.out (by rw [HT.out]; rfl), HB3.out⟩
              case measure => simp [Go.RowKit.intOf]; omega
          · obtain rfl : k = m.funcs.length := by omega
            have hd : decide ((m.funcs.length : Int) < (m.funcs.length : Int)) = false := by simp
            have hd2 : decide (m.funcs.length < m.funcs.length) = false := by simp
            have HE1 := Lib.hid (fine_end HA.out)
            have HBE1 := Lib.hid HB.out
            obtain ⟨w4, rfl⟩ : ∃ w4, w4 = wr := ⟨_, rfl⟩
            obtain ⟨f1, hf1⟩ : ∃ f1, f1 = f := ⟨_, rfl⟩
            subst hf1
            clear HA HB HB2
            go_wp2_with fail
            clear hd hd2 q1
            obtain ⟨V2, hV2⟩ : ∃ V : Bool, (f1 && m.memory.all rightMem) = V := ⟨_, rfl⟩
            have HV2 := Lib.hid hV2
            clear hV2
            go_loopw [3, 7] (fun fn i wr => ∃ (k : Nat) (f : Bool), k ≤ m.memory.length ∧ i = .int .i64 k ∧ fn = .bool f ∧ (f && (m.memory.drop k).all rightMem) = V2 ∧ Below W1.heap.size W1 wr) (fun _ i _ => m.memory.length + 1 - (Go.RowKit.intOf i).toNat)
            case atStart => exact ⟨0, f1, Nat.zero_le _, rfl, rfl, HV2.out, HBE1.out⟩
            case round =>
              obtain ⟨k, f, hk, rfl, rfl, ha, hB⟩ := hrel
              have HA := Lib.hid ha
              have HB := Lib.hid hB
              have HB2 := Lib.hid (B0.out.trans (hB.mono B0.out.size))
              have hb9 := boxm_later hB HBX.out
              have q2 := boxm_at hb9 2 _ rfl
              clear ha hB hb9
              by_cases hlt : k < m.memory.length
              · have hd : decide ((k : Int) < (m.memory.length : Int)) = true := decide_eq_true (by omega)
                have hd2 : decide (k < m.memory.length) = true := decide_eq_true hlt
                obtain ⟨x, hm⟩ : ∃ x, m.memory[k]? = some x := ⟨_, List.getElem?_eq_getElem hlt⟩
                obtain ⟨r, hr, _, b, off, rfl, hb, hcell⟩ := MA.out k _ hm
                have HM := Lib.hid hm
                have HIN := Lib.hid (List.mem_of_getElem? hm)
                obtain ⟨lo, hi⟩ := x
                have hr : r = [.int .i64 lo, .int .i64 hi] := hr
                subst hr
                have c0 : wr.cell? ⟨b, off + k * 2, none⟩ = some (.int .i64 lo) := cell_later HB2.out (hcell 0 _ rfl)
                have c1 : wr.cell? ⟨b, off + k * 2 + 1, none⟩ = some (.int .i64 hi) := cell_later HB2.out (hcell 1 _ rfl)
                clear hm hcell hb
                cases f
                · skip
                  go_wp2_with fail
                  go_roundw
                  case rel => exact ⟨k + 1, _, by omega, by go_num, rfl, fine_step HA.out HM.out rfl, HB.out⟩
                  case measure => simp [Go.RowKit.intOf]; omega
                · obtain ⟨T, hT⟩ : ∃ T, wordB lo = T := ⟨_, rfl⟩
                  obtain ⟨U, hU⟩ : ∃ U, wordB hi = U := ⟨_, rfl⟩
                  obtain ⟨X, hX⟩ : ∃ X, (hi == -1) = X := ⟨_, rfl⟩
                  have HT := Lib.hid hT
                  have HU := Lib.hid hU
                  have HX := Lib.hid hX
                  clear hT hU
                  go_wp2_with fail
                  refine (rmword_any lo _ T HT.out).mono ?_
                  rintro en w' ⟨rfl, rfl⟩
                  cases T
                  · skip
                    go_wp2_with fail
                    go_roundw
                    case rel => exact ⟨k + 1, _, by omega, by go_num, rfl, fine_step HA.out HM.out (by show (true && (wordB lo && (hi == -1 || wordB hi))) = _; rw [HT.out]; rfl), HB.out⟩
                    case measure => simp [Go.RowKit.intOf]; omega
                  · cases X
                    · go_wp2_with fail
                      refine (rmword_any hi _ U HU.out).mono ?_
                      rintro en w' ⟨rfl, rfl⟩
                      cases U
                      all_goals
                        go_wp2_with fail
                        go_roundw
                        case rel => exact ⟨k + 1, _, by omega, by go_num, rfl, fine_step HA.out HM.out (by show (true && (wordB lo && (hi == -1 || wordB hi))) = _; rw [HT.out, HX.out, HU.out]; rfl), HB.out⟩
                        case measure => simp [Go.RowKit.intOf]; omega
                    · skip
                      go_wp2_with fail
                      go_roundw
                      case rel => exact ⟨k + 1, _, by omega, by go_num, rfl, fine_step HA.out HM.out (by show (true && (wordB lo && (hi == -1 || wordB hi))) = _; rw [HT.out, HX.out]; rfl), HB.out⟩
                      case measure => simp [Go.RowKit.intOf]; omega
              · obtain rfl : k = m.memory.length := by omega
                have hd : decide ((m.memory.length : Int) < (m.memory.length : Int)) = false := by simp
                have hd2 : decide (m.memory.length < m.memory.length) = false := by simp
                have HE2 := Lib.hid (fine_end HA.out)
                have HBE2 := Lib.hid HB.out
                obtain ⟨w5, rfl⟩ : ∃ w5, w5 = wr := ⟨_, rfl⟩
                obtain ⟨f2, hf2⟩ : ∃ f2, f2 = f := ⟨_, rfl⟩
                subst hf2
                clear HA HB HB2
                go_wp2_with fail
                clear hd hd2 q2
                obtain ⟨V3, hV3⟩ : ∃ V : Bool, (f2 && m.globals.all rightGlob) = V := ⟨_, rfl⟩
                have HV3 := Lib.hid hV3
                clear hV3
                go_loopw [3, 8] (fun fn i wr => ∃ (k : Nat) (f : Bool), k ≤ m.globals.length ∧ i = .int .i64 k ∧ fn = .bool f ∧ (f && (m.globals.drop k).all rightGlob) = V3 ∧ Below W1.heap.size W1 wr) (fun _ i _ => m.globals.length + 1 - (Go.RowKit.intOf i).toNat)
                case atStart => exact ⟨0, f2, Nat.zero_le _, rfl, rfl, HV3.out, HBE2.out⟩
                case round =>
                  obtain ⟨k, f, hk, rfl, rfl, ha, hB⟩ := hrel
                  have HA := Lib.hid ha
                  have HB := Lib.hid hB
                  have HB2 := Lib.hid (B0.out.trans (hB.mono B0.out.size))
                  have hb9 := boxm_later hB HBX.out
                  have q3 := boxm_at hb9 3 _ rfl
                  clear ha hB hb9
                  by_cases hlt : k < m.globals.length
                  · have hd : decide ((k : Int) < (m.globals.length : Int)) = true := decide_eq_true (by omega)
                    have hd2 : decide (k < m.globals.length) = true := decide_eq_true hlt
                    obtain ⟨x, hm⟩ : ∃ x, m.globals[k]? = some x := ⟨_, List.getElem?_eq_getElem hlt⟩
                    obtain ⟨r, hr, _, b, off, rfl, hb, hcell⟩ := GA.out k _ hm
                    have HM := Lib.hid hm
                    have HIN := Lib.hid (List.mem_of_getElem? hm)
                    obtain ⟨ty, mu, n⟩ := x
                    have hr : r = [.int .i64 ty, .bool mu, .int .i64 n] := hr
                    subst hr
                    have c0 : wr.cell? ⟨b, off + k * 3, none⟩ = some (.int .i64 ty) := cell_later HB2.out (hcell 0 _ rfl)
                    have c1 : wr.cell? ⟨b, off + k * 3 + 1, none⟩ = some (.bool mu) := cell_later HB2.out (hcell 1 _ rfl)
                    have c2 : wr.cell? ⟨b, off + k * 3 + 2, none⟩ = some (.int .i64 n) := cell_later HB2.out (hcell 2 _ rfl)
                    clear hm hcell hb
                    have HB3 := Lib.hid (HB.out.alloc HB.out.size (.cells #[.int .i64 ty, .bool mu, .int .i64 n] 63))
                    obtain ⟨T, hT⟩ : ∃ T, (n == wrap32 n) = T := ⟨_, rfl⟩
                    have HT := Lib.hid hT
                    clear hT
                    obtain ⟨X, hX⟩ : ∃ X, (ty == 126) = X := ⟨_, rfl⟩
                    obtain ⟨Y, hY⟩ : ∃ Y, (ty == 127) = Y := ⟨_, rfl⟩
                    have HX := Lib.hid hX
                    have HY := Lib.hid hY
                    cases f
                    · skip
                      go_wp2_with fail
                      go_roundw
                      case rel => exact ⟨k + 1, _, by omega, by go_num, rfl, fine_step HA.out HM.out rfl, HB3.out⟩
                      case measure => simp [Go.RowKit.intOf]; omega
                    · cases X
                      · cases Y
                        · skip
                          go_wp2_with fail
                          go_roundw
                          case rel => exact ⟨k + 1, _, by omega, by go_num, rfl, fine_step HA.out HM.out (by show (_ && (ty == 126 || (ty == 127 && n == wrap32 n))) = _; rw [HX.out, HY.out]; rfl), HB3.out⟩
                          case measure => simp [Go.RowKit.intOf]; omega
                        · go_wp2_with fail
                          refine (rsmall_any n _ T HT.out).mono ?_
                          rintro en w' ⟨rfl, rfl⟩
                          cases T
                          all_goals
                            go_wp2_with fail
                            go_roundw
                            case rel => exact ⟨k + 1, _, by omega, by go_num, rfl, fine_step HA.out HM.out (by show (_ && (ty == 126 || (ty == 127 && n == wrap32 n))) = _; rw [HX.out, HY.out, HT.out]; rfl), HB3.out⟩
                            case measure => simp [Go.RowKit.intOf]; omega
                      · skip
                        go_wp2_with fail
                        go_roundw
                        case rel => exact ⟨k + 1, _, by omega, by go_num, rfl, fine_step HA.out HM.out (by show (_ && (ty == 126 || (ty == 127 && n == wrap32 n))) = _; rw [HX.out]; rfl), HB3.out⟩
                        case measure => simp [Go.RowKit.intOf]; omega
                  · obtain rfl : k = m.globals.length := by omega
                    have hd : decide ((m.globals.length : Int) < (m.globals.length : Int)) = false := by simp
                    have hd2 : decide (m.globals.length < m.globals.length) = false := by simp
                    have HE3 := Lib.hid (fine_end HA.out)
                    have HBE3 := Lib.hid HB.out
                    obtain ⟨w6, rfl⟩ : ∃ w6, w6 = wr := ⟨_, rfl⟩
                    obtain ⟨f3, hf3⟩ : ∃ f3, f3 = f := ⟨_, rfl⟩
                    subst hf3
                    clear HA HB HB2
                    go_wp2_with fail
                    clear hd hd2 q3
                    obtain ⟨V4, hV4⟩ : ∃ V : Bool, (f3 && m.exports.all rightExp) = V := ⟨_, rfl⟩
                    have HV4 := Lib.hid hV4
                    clear hV4
                    go_loopw [3, 10] (fun fn i wr => ∃ (k : Nat) (f : Bool), k ≤ m.exports.length ∧ i = .int .i64 k ∧ fn = .bool f ∧ (f && (m.exports.drop k).all rightExp) = V4 ∧ Below W1.heap.size W1 wr) (fun _ i _ => m.exports.length + 1 - (Go.RowKit.intOf i).toNat)
                    case atStart => exact ⟨0, f3, Nat.zero_le _, rfl, rfl, HV4.out, HBE3.out⟩
                    case round =>
                      obtain ⟨k, f, hk, rfl, rfl, ha, hB⟩ := hrel
                      have HA := Lib.hid ha
                      have HB := Lib.hid hB
                      have HB2 := Lib.hid (B0.out.trans (hB.mono B0.out.size))
                      have hb9 := boxm_later hB HBX.out
                      have q4 := boxm_at hb9 4 _ rfl
                      clear ha hB hb9
                      by_cases hlt : k < m.exports.length
                      · have hd : decide ((k : Int) < (m.exports.length : Int)) = true := decide_eq_true (by omega)
                        have hd2 : decide (k < m.exports.length) = true := decide_eq_true hlt
                        obtain ⟨x, hm⟩ : ∃ x, m.exports[k]? = some x := ⟨_, List.getElem?_eq_getElem hlt⟩
                        obtain ⟨r, hr, _, b, off, rfl, hb, hcell⟩ := EA.out k _ hm
                        have HM := Lib.hid hm
                        have HIN := Lib.hid (List.mem_of_getElem? hm)
                        obtain ⟨nm, kd, ix⟩ := x
                        obtain ⟨rfl, hns⟩ := hr
                        change nm.size ≤ _ at hns
                        have hnm : nm.size ≤ 140737488355328 := by have h9 : nm.size ≤ 140737488351232 := (HO.out.exp _ HIN.out).2.2; omega
                        have c0 : wr.cell? ⟨b, off + k * 3, none⟩ = some (.string nm) := cell_later HB2.out (hcell 0 _ rfl)
                        have c1 : wr.cell? ⟨b, off + k * 3 + 1, none⟩ = some (.int .i64 kd) := cell_later HB2.out (hcell 1 _ rfl)
                        have c2 : wr.cell? ⟨b, off + k * 3 + 2, none⟩ = some (.int .i64 ix) := cell_later HB2.out (hcell 2 _ rfl)
                        clear hm hcell hb
                        have HB3 := Lib.hid (HB.out.alloc HB.out.size (.cells #[.string nm, .int .i64 kd, .int .i64 ix] 67))
                        obtain ⟨T, hT⟩ : ∃ T, nameB nm = T := ⟨_, rfl⟩
                        have HT := Lib.hid hT
                        clear hT
                        obtain ⟨U, hU⟩ : ∃ U, wordB ix = U := ⟨_, rfl⟩
                        have HU := Lib.hid hU
                        clear hU
                        obtain ⟨X, hX⟩ : ∃ X, (kd == 0) = X := ⟨_, rfl⟩
                        have HX := Lib.hid hX
                        obtain ⟨Y, hY⟩ : ∃ Y, (kd == 2) = Y := ⟨_, rfl⟩
                        have HY := Lib.hid hY
                        obtain ⟨Z, hZ⟩ : ∃ Z, (kd == 3) = Z := ⟨_, rfl⟩
                        have HZ := Lib.hid hZ
                        go_wp2_with fail
                        refine (rname_any nm _ hnm T HT.out).mono ?_
                        rintro en w' ⟨rfl, rfl⟩
                        cases f
                        · skip
                          go_wp2_with fail
                          go_roundw
                          case rel => exact ⟨k + 1, _, by omega, by go_num, rfl, fine_step HA.out HM.out rfl, HB3.out⟩
                          case measure => simp [Go.RowKit.intOf]; omega
                        · cases T
                          · skip
                            go_wp2_with fail
                            go_roundw
                            case rel => exact ⟨k + 1, _, by omega, by go_num, rfl, fine_step HA.out HM.out (by show (_ && (nameB nm && ((kd == 0 || (kd == 2 || kd == 3)) && wordB ix))) = _; rw [HT.out]; rfl), HB3.out⟩
                            case measure => simp [Go.RowKit.intOf]; omega
                          · cases X
                            · cases Y
                              · cases Z
                                · skip
                                  go_wp2_with fail
                                  go_roundw
                                  case rel => exact ⟨k + 1, _, by omega, by go_num, rfl, fine_step HA.out HM.out (by show (_ && (nameB nm && ((kd == 0 || (kd == 2 || kd == 3)) && wordB ix))) = _; rw [HT.out, HX.out, HY.out, HZ.out]; rfl), HB3.out⟩
                                  case measure => simp [Go.RowKit.intOf]; omega
                                · skip
                                  go_wp2_with fail
                                  refine (rmword_any ix _ U HU.out).mono ?_
                                  rintro en w' ⟨rfl, rfl⟩
                                  cases U
                                  all_goals
                                    go_wp2_with fail
                                    go_roundw
                                    case rel => exact ⟨k + 1, _, by omega, by go_num, rfl, fine_step HA.out HM.out (by show (_ && (nameB nm && ((kd == 0 || (kd == 2 || kd == 3)) && wordB ix))) = _; rw [HT.out, HX.out, HY.out, HZ.out, HU.out]; rfl), HB3.out⟩
                                    case measure => simp [Go.RowKit.intOf]; omega
                              · skip
                                go_wp2_with fail
                                refine (rmword_any ix _ U HU.out).mono ?_
                                rintro en w' ⟨rfl, rfl⟩
                                cases U
                                all_goals
                                  go_wp2_with fail
                                  go_roundw
                                  case rel => exact ⟨k + 1, _, by omega, by go_num, rfl, fine_step HA.out HM.out (by show (_ && (nameB nm && ((kd == 0 || (kd == 2 || kd == 3)) && wordB ix))) = _; rw [HT.out, HX.out, HY.out, HU.out]; rfl), HB3.out⟩
                                  case measure => simp [Go.RowKit.intOf]; omega
                            · skip
                              go_wp2_with fail
                              refine (rmword_any ix _ U HU.out).mono ?_
                              rintro en w' ⟨rfl, rfl⟩
                              cases U
                              all_goals
                                go_wp2_with fail
                                go_roundw
                                case rel => exact ⟨k + 1, _, by omega, by go_num, rfl, fine_step HA.out HM.out (by show (_ && (nameB nm && ((kd == 0 || (kd == 2 || kd == 3)) && wordB ix))) = _; rw [HT.out, HX.out, HU.out]; rfl), HB3.out⟩
                                case measure => simp [Go.RowKit.intOf]; omega
                      · obtain rfl : k = m.exports.length := by omega
                        have hd : decide ((m.exports.length : Int) < (m.exports.length : Int)) = false := by simp
                        have hd2 : decide (m.exports.length < m.exports.length) = false := by simp
                        have HE4 := Lib.hid (fine_end HA.out)
                        have HBE4 := Lib.hid HB.out
                        obtain ⟨w7, rfl⟩ : ∃ w7, w7 = wr := ⟨_, rfl⟩
                        obtain ⟨f4, hf4⟩ : ∃ f4, f4 = f := ⟨_, rfl⟩
                        subst hf4
                        clear HA HB HB2
                        go_wp2_with fail
                        clear hd hd2 q4
                        obtain ⟨V5, hV5⟩ : ∃ V : Bool, (f4 && m.data.all rightData) = V := ⟨_, rfl⟩
                        have HV5 := Lib.hid hV5
                        clear hV5
                        go_loopw [3, 13] (fun fn i wr => ∃ (k : Nat) (f : Bool), k ≤ m.data.length ∧ i = .int .i64 k ∧ fn = .bool f ∧ (f && (m.data.drop k).all rightData) = V5 ∧ Below W1.heap.size W1 wr) (fun _ i _ => m.data.length + 1 - (Go.RowKit.intOf i).toNat)
                        case atStart => exact ⟨0, f4, Nat.zero_le _, rfl, rfl, HV5.out, HBE4.out⟩
                        case round =>
                          obtain ⟨k, f, hk, rfl, rfl, ha, hB⟩ := hrel
                          have HA := Lib.hid ha
                          have HB := Lib.hid hB
                          have HB2 := Lib.hid (B0.out.trans (hB.mono B0.out.size))
                          have hb9 := boxm_later hB HBX.out
                          have q6 := boxm_at hb9 6 _ rfl
                          clear ha hB hb9
                          by_cases hlt : k < m.data.length
                          · have hd : decide ((k : Int) < (m.data.length : Int)) = true := decide_eq_true (by omega)
                            have hd2 : decide (k < m.data.length) = true := decide_eq_true hlt
                            obtain ⟨x, hm⟩ : ∃ x, m.data[k]? = some x := ⟨_, List.getElem?_eq_getElem hlt⟩
                            obtain ⟨r, hr, _, b, off, rfl, hb, hcell⟩ := DA.out k _ hm
                            have HM := Lib.hid hm
                            have HIN := Lib.hid (List.mem_of_getElem? hm)
                            obtain ⟨of, bs⟩ := x
                            obtain ⟨rfl, hns⟩ := hr
                            have c0 : wr.cell? ⟨b, off + k * 2, none⟩ = some (.int .i64 of) := cell_later HB2.out (hcell 0 _ rfl)
                            have c1 : wr.cell? ⟨b, off + k * 2 + 1, none⟩ = some (.string bs) := cell_later HB2.out (hcell 1 _ rfl)
                            clear hm hcell hb hns
                            obtain ⟨T, hT⟩ : ∃ T, (of == wrap32 of) = T := ⟨_, rfl⟩
                            have HT := Lib.hid hT
                            clear hT
                            cases f
                            · skip
                              go_wp2_with fail
                              go_roundw
                              case rel => exact ⟨k + 1, _, by omega, by go_num, rfl, fine_step HA.out HM.out rfl, HB.out⟩
                              case measure => simp [Go.RowKit.intOf]; omega
                            · go_wp2_with fail
                              refine (rsmall_any of _ T HT.out).mono ?_
                              rintro en w' ⟨rfl, rfl⟩
                              cases T
                              all_goals
                                go_wp2_with fail
                                go_roundw
                                case rel => exact ⟨k + 1, _, by omega, by go_num, rfl, fine_step HA.out HM.out (by show (_ && (of == wrap32 of)) = _; rw [HT.out]; rfl), HB.out⟩
                                case measure => simp [Go.RowKit.intOf]; omega
                          · obtain rfl : k = m.data.length := by omega
                            have hd : decide ((m.data.length : Int) < (m.data.length : Int)) = false := by simp
                            have hd2 : decide (m.data.length < m.data.length) = false := by simp
                            have HE5 := Lib.hid (fine_end HA.out)
                            have HBE5 := Lib.hid HB.out
                            obtain ⟨w8, rfl⟩ : ∃ w8, w8 = wr := ⟨_, rfl⟩
                            obtain ⟨f5, hf5⟩ : ∃ f5, f5 = f := ⟨_, rfl⟩
                            subst hf5
                            clear HA HB HB2
                            have HFIN := Lib.hid (show ANS = f5 by rw [HE5.out, HR.out, ← HV5.out, HE4.out, ← HV4.out, HE3.out, ← HV3.out, HE2.out, ← HV2.out, HE1.out, ← HV1.out, HE0.out, ← HV0.out]; simp only [Bool.true_and, Bool.and_assoc])
                            go_wp2_with fail
                            go_ret
                            exact ⟨by rw [HFIN.out]; rfl, B0.out.trans (HBE5.out.mono B0.out.size)⟩
end Go.Proofs.YtkemaonhchklmaaGreatDoor.Mod
