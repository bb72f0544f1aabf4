/-
  What the reference's Right of chapter 3 answers, whole. No condition beyond what each theorem names.
-/
import Derived.Test.YtlbgbpgjccbbjaaDoorOpRefF
namespace Go.Proofs.YtlbgbpgjccbbjaaDoor.Op
open Go.RowKit Go.Maps
set_option linter.unusedVariables false
def labR (zs : List Int) (A : Int) : Bool := if allWords zs then decide (zs.length ≤ 4096) && wordB A else false
theorem labR_no {zs : List Int} {A : Int} (h : allWords zs = false) : labR zs A = false := by unfold labR; rw [h]; rfl
theorem labR_long {zs : List Int} {A : Int} (h : 4096 < zs.length) : labR zs A = false := by
  unfold labR
  rw [decide_eq_false (show ¬ zs.length ≤ 4096 by omega)]
  cases allWords zs <;> rfl
theorem labR_yes {zs : List Int} {A : Int} (h : allWords zs = true) (h2 : zs.length ≤ 4096) : labR zs A = wordB A := by
  unfold labR
  rw [h, decide_eq_true h2]
  simp
def RelS (zs : List Int) (i : Value) : Prop := ∃ k : Nat, k ≤ zs.length ∧ i = .int .i64 k ∧ ∀ j, j < k → wordB (zs.getD j 0) = true
set_option maxRecDepth 100000 in
set_option maxHeartbeats 2000000 in
theorem rright_s3 (op A : Int) (zs : List Int) (nm p r : ByteArray) (lb lo cp : Nat) (w : World) (hpos : 0 < zs.length) (h63 : zs.length ≤ 9223372036854775807) (hlb : lb < w.heap.size) (hz : ∀ j z, zs[j]? = some z → w.cell? ⟨lb, lo + j, none⟩ = some (.int .i64 z)) (hi : opInfo op = some ⟨nm, 3, p, r⟩) :
    Calls Tryd.prog 21 #[.agg #[.int .i64 op, .int .i64 A, .int .i64 0, .slice (some ⟨lb, lo, none⟩) zs.length cp]] w fun e w' => e = .returned (.bool (labR zs A)) ∧ Below w.heap.size w w' := by
  have B0 : Below w.heap.size w (w.alloc (.cells #[.int .i64 op, .int .i64 A, .int .i64 0, .slice (some ⟨lb, lo, none⟩) zs.length cp] 36)) := (Below.refl _ _).alloc (Nat.le_refl _) _
  have HI := Lib.hid hi
  have HZ := Lib.hid hz
  clear hi hz
  go_enter Tryd.func21, Tryd.ntmps21
  go_wp2_with fail
  refine (rof_any op _ nm p r 3 true (by rw [HI.out]; rfl) (by rw [HI.out]; rfl)).mono ?_
  rintro e w1 ⟨rfl, c1⟩
  have B1 := B0.trans (c1.mono B0.size)
  have s0 : w.heap.size < w1.heap.size := by have := c1.size; simp at this; omega
  have r0 : w1.cell? ⟨w.heap.size, 0, none⟩ = some (.int .i64 op) := cell_later c1 (by simp)
  have r1 : w1.cell? ⟨w.heap.size, 1, none⟩ = some (.int .i64 A) := cell_later c1 (by simp)
  have r2 : w1.cell? ⟨w.heap.size, 2, none⟩ = some (.int .i64 0) := cell_later c1 (by simp)
  have r3 : w1.cell? ⟨w.heap.size, 3, none⟩ = some (.slice (some ⟨lb, lo, none⟩) zs.length cp) := cell_later c1 (by simp)
  clear c1 B0
  have BW := Lib.hid (B1.alloc B1.size (.cells #[.string nm, .int .i64 3, .string p, .string r] 27))
  have T1 := Lib.hid (show (w1.alloc (.cells #[.string nm, .int .i64 3, .string p, .string r] 27)).cell? ⟨w.heap.size, 1, none⟩ = some (.int .i64 A) from (World.cell?_alloc_past _ _ _ s0).trans r1)
  have T3 := Lib.hid (show (w1.alloc (.cells #[.string nm, .int .i64 3, .string p, .string r] 27)).cell? ⟨w.heap.size, 3, none⟩ = some (.slice (some ⟨lb, lo, none⟩) zs.length cp) from (World.cell?_alloc_past _ _ _ s0).trans r3)
  go_wp2_with fail
  clear r0 r1 r2 r3
  obtain ⟨W2, hW2⟩ : ∃ W2, w1.alloc (.cells #[.string nm, .int .i64 3, .string p, .string r] 27) = W2 := ⟨_, rfl⟩
  rw [hW2] at BW T1 T3 ⊢
  clear hW2 B1
  have t1 := T1.out
  have t3 := T3.out
  go_loop [5] (fun i => RelS zs i) (fun i => zs.length - (intOf i).toNat)
  case atStart => exact ⟨0, Nat.zero_le _, rfl, fun j hj => by omega⟩
  case round =>
    obtain ⟨k, hk, rfl, hpre⟩ := hrel
    have HP := Lib.hid hpre
    clear hpre
    by_cases hlt : k < zs.length
    · obtain ⟨z, hz⟩ : ∃ z, zs[k]? = some z := ⟨_, List.getElem?_eq_getElem hlt⟩
      have c0 : W2.cell? ⟨lb, lo + k, none⟩ = some (.int .i64 z) := cell_later BW.out (HZ.out k z hz)
      have hd : decide (k < zs.length) = true := decide_eq_true hlt
      have HZK := Lib.hid hz
      clear hz
      go_wp2_with fail
      cases hw : wordB z
      · refine (rword_any z _ false hw).mono ?_
        rintro e w2 ⟨rfl, rfl⟩
        have hno : allWords zs = false := by
          unfold allWords
          rw [List.all_eq_false]
          exact ⟨z, List.mem_of_getElem? HZK.out, by simp [hw]⟩
        have HNO := Lib.hid hno
        clear hno hw
        go_wp2_with fail
        go_ret
        rw [labR_no HNO.out]
        exact ⟨rfl, BW.out⟩
      · refine (rword_any z _ true hw).mono ?_
        rintro e w2 ⟨rfl, rfl⟩
        have HWZ := Lib.hid hw
        clear hw
        go_wp2_with fail
        go_round
        case rel => exact ⟨k + 1, by omega, by go_num, fun j hj => by rcases (show j < k ∨ j = k by omega) with h9 | rfl; exact HP.out j h9; rw [List.getD_eq_getElem?_getD, HZK.out]; exact HWZ.out⟩
        case measure => simp [intOf]; omega
    · obtain rfl : k = zs.length := by omega
      have hd : decide (zs.length < zs.length) = false := by simp
      have hy : allWords zs = true := by
        unfold allWords
        rw [List.all_eq_true]
        intro x hx
        obtain ⟨j, hj, rfl⟩ := List.getElem_of_mem hx
        have := HP.out j hj
        rw [List.getD_eq_getElem?_getD, List.getElem?_eq_getElem hj] at this
        exact this
      have HY := Lib.hid hy
      clear hy
      by_cases hle : zs.length ≤ 4096
      · obtain ⟨b, hb⟩ : ∃ b, wordB A = b := ⟨_, rfl⟩
        have HB := Lib.hid hb
        clear hb
        go_wp2_with fail
        refine (rword_any A _ b HB.out).mono ?_
        rintro e w2 ⟨rfl, rfl⟩
        go_wp2_with fail
        go_ret
        rw [labR_yes HY.out hle, HB.out]
        exact ⟨rfl, BW.out⟩
      · have hl2 : decide (zs.length ≤ 4096) = false := decide_eq_false hle
        go_wp2_with fail
        go_ret
        rw [labR_long (by omega)]
        exact ⟨rfl, BW.out⟩
set_option maxRecDepth 100000 in
set_option maxHeartbeats 2000000 in
theorem rright_s3n (op A : Int) (nm p r : ByteArray) (la : Option Addr) (cp : Nat) (b : Bool) (w : World) (hw : wordB A = b) (hi : opInfo op = some ⟨nm, 3, p, r⟩) :
    Calls Tryd.prog 21 #[.agg #[.int .i64 op, .int .i64 A, .int .i64 0, .slice la 0 cp]] w fun e w' => e = .returned (.bool b) ∧ Below w.heap.size w w' := by
  have B0 : Below w.heap.size w (w.alloc (.cells #[.int .i64 op, .int .i64 A, .int .i64 0, .slice la 0 cp] 36)) := (Below.refl _ _).alloc (Nat.le_refl _) _
  have HI := Lib.hid hi
  have HW := Lib.hid hw
  clear hi hw
  go_enter Tryd.func21, Tryd.ntmps21
  go_wp2_with fail
  refine (rof_any op _ nm p r 3 true (by rw [HI.out]; rfl) (by rw [HI.out]; rfl)).mono ?_
  rintro e w1 ⟨rfl, c1⟩
  have B1 := B0.trans (c1.mono B0.size)
  have s0 : w.heap.size < w1.heap.size := by have := c1.size; simp at this; omega
  have r0 : w1.cell? ⟨w.heap.size, 0, none⟩ = some (.int .i64 op) := cell_later c1 (by simp)
  have r1 : w1.cell? ⟨w.heap.size, 1, none⟩ = some (.int .i64 A) := cell_later c1 (by simp)
  have r2 : w1.cell? ⟨w.heap.size, 2, none⟩ = some (.int .i64 0) := cell_later c1 (by simp)
  have r3 : w1.cell? ⟨w.heap.size, 3, none⟩ = some (.slice la 0 cp) := cell_later c1 (by simp)
  clear c1 B0
  go_wp2_with fail
  refine wp_loop_rounds 1 ?_
  rw [rounds_succ]
  go_wp2_with fail
  refine (rword_any A _ b HW.out).mono ?_
  rintro e w2 ⟨rfl, rfl⟩
  go_wp2_with fail
  go_ret
  exact ⟨rfl, B1.alloc (by omega) _⟩
theorem rright_nil (op A B : Int) (la : Option Addr) (cp : Nat) (w : World) :
    Calls Tryd.prog 21 #[.agg #[.int .i64 op, .int .i64 A, .int .i64 B, .slice la 0 cp]] w fun e w' => e = .returned (.bool (rightB op A B [])) ∧ Below w.heap.size w w' := by
  cases hi : opInfo op with
  | none =>
    rw [show rightB op A B [] = false by unfold rightB; rw [hi]]
    exact rright_none op A B _ w hi
  | some i =>
    obtain ⟨nm, sh, p, r⟩ := i
    obtain ⟨s0, s1⟩ := shape_range hi
    by_cases hb : B ≠ 0 ∧ sh ≠ 5
    · rw [right_bad hi A B [] hb.1 hb.2]
      exact rright_b op A B _ nm p r sh w (beq_eq_false_iff_ne.2 hb.1) (beq_eq_false_iff_ne.2 hb.2) (bne_iff_ne.2 hb.1) (bne_iff_ne.2 hb.2) hi
    · have hb2 : B = 0 ∨ sh = 5 := by
        by_cases h0 : B = 0
        · exact .inl h0
        · exact .inr (Classical.byContradiction fun h => hb ⟨h0, h⟩)
      rw [right_tail hi A B hb2]
      by_cases h5 : sh = 5
      · subst h5
        rw [tail_w 5 op A B (by decide) (by decide)]
        by_cases h0 : B = 0
        · subst h0
          exact rright_s5a op A nm p r la cp _ _ w rfl rfl hi
        · exact rright_s5b op A B nm p r la cp _ _ w (beq_eq_false_iff_ne.2 h0) (bne_iff_ne.2 h0) rfl rfl hi
      · obtain rfl : B = 0 := hb2.resolve_right h5
        rcases (show sh = 0 ∨ sh = 1 ∨ sh = 2 ∨ sh = 3 ∨ sh = 4 ∨ sh = 6 ∨ sh = 7 by simp at s0 s1; omega) with rfl | rfl | rfl | rfl | rfl | rfl | rfl
        · rw [tail_0]; exact rright_s0 op A nm p r la cp w hi
        · rw [tail_1]; exact rright_s1 op A nm p r la cp w hi
        · rw [tail_w 2 op A 0 (by decide) (by decide), word0, Bool.and_true]; exact rright_s2 op A nm p r la cp _ w rfl hi
        · rw [tail_w 3 op A 0 (by decide) (by decide), word0, Bool.and_true]; exact rright_s3n op A nm p r la cp _ w rfl hi
        · rw [tail_w 4 op A 0 (by decide) (by decide), word0, Bool.and_true]; exact rright_s4 op A nm p r la cp _ w rfl hi
        · rw [tail_6]; exact rright_s6 op A nm p r la cp w hi
        · rw [tail_7]; exact rright_s7 op A nm p r la cp w hi
/-- the reference's Right -/
theorem rright_any (op A B : Int) (lv : Value) (zs : List Int) (w : World) (h63 : zs.length ≤ 9223372036854775807) (hl : IntsAt w lv zs) :
    Calls Tryd.prog 21 #[.agg #[.int .i64 op, .int .i64 A, .int .i64 B, lv]] w fun e w' => e = .returned (.bool (rightB op A B zs)) ∧ Below w.heap.size w w' := by
  rcases hl with ⟨rfl, rfl⟩ | ⟨lb, lo, cp, rfl, hlb, hz⟩
  · exact rright_nil op A B none 0 w
  · by_cases h0 : zs = []
    · subst h0
      exact rright_nil op A B (some ⟨lb, lo, none⟩) cp w
    · have hpos : 0 < zs.length := List.length_pos_iff.2 h0
      cases hi : opInfo op with
      | none =>
        rw [show rightB op A B zs = false by unfold rightB; rw [hi]]
        exact rright_none op A B _ w hi
      | some i =>
        obtain ⟨nm, sh, p, r⟩ := i
        by_cases hb : B ≠ 0 ∧ sh ≠ 5
        · rw [right_bad hi A B zs hb.1 hb.2]
          exact rright_b op A B _ nm p r sh w (beq_eq_false_iff_ne.2 hb.1) (beq_eq_false_iff_ne.2 hb.2) (bne_iff_ne.2 hb.1) (bne_iff_ne.2 hb.2) hi
        · have e0 : rightB op A B zs = rightI ⟨nm, sh, p, r⟩ op A B zs := by unfold rightB; rw [hi]
          rw [e0]
          unfold rightI
          rw [if_neg hb]
          by_cases h3 : sh = 3
          · subst h3
            obtain rfl : B = 0 := Classical.byContradiction fun h => hb ⟨h, by decide⟩
            rw [if_neg (by simp)]
            have e1 : (if 4096 < zs.length then false else if allWords zs then tailB (⟨nm, 3, p, r⟩ : Info).shape op A 0 else false) = labR zs A := by
              by_cases h4 : 4096 < zs.length
              · rw [if_pos h4, labR_long h4]
              · rw [if_neg h4, tail_w 3 op A 0 (by decide) (by decide), word0, Bool.and_true]
                unfold labR
                rw [decide_eq_true (show zs.length ≤ 4096 by omega), Bool.true_and]
            rw [e1]
            exact rright_s3 op A zs nm p r lb lo cp w hpos h63 hlb hz hi
          · rw [if_pos ⟨h0, h3⟩]
            by_cases hB : B = 0
            · subst hB
              exact rright_l0 op A nm p r sh lb lo zs.length cp w (beq_eq_false_iff_ne.2 h3) (bne_iff_ne.2 h3) hpos hi
            · obtain rfl : sh = 5 := Classical.byContradiction fun h => hb ⟨hB, h⟩
              exact rright_l5 op A B nm p r lb lo zs.length cp w (beq_eq_false_iff_ne.2 hB) (bne_iff_ne.2 hB) hpos hi
end Go.Proofs.YtlbgbpgjccbbjaaDoor.Op
