/-
  What package op's Right answers where there are labels. No condition beyond what each theorem names.
-/
import Derived.Test.YtmfdabkmijbffaaGreatDoorOpRightN
namespace Go.Proofs.YtmfdabkmijbffaaGreatDoor.Op
open Go.RowKit Go.Maps
set_option linter.unusedVariables false
def labB (zs : List Int) (A : Int) : Bool := if allWords zs then allWords [A, 0] else false
theorem labB_no {zs : List Int} {A : Int} (h : allWords zs = false) : labB zs A = false := by unfold labB; rw [h]; rfl
theorem labB_yes {zs : List Int} {A : Int} (h : allWords zs = true) : labB zs A = allWords [A, 0] := by unfold labB; rw [h]; rfl
def RelR (w W2 : World) (zs : List Int) (i : Value) (wr : World) : Prop := ∃ k : Nat, k ≤ zs.length ∧ i = .int .i64 k ∧ (∀ j, j < k → wordB (zs.getD j 0) = true) ∧ Below W2.heap.size W2 wr ∧ Below w.heap.size w wr
set_option maxRecDepth 100000 in
set_option maxHeartbeats 2000000 in
theorem right_lab (op A : Int) (zs : List Int) (nm p r : ByteArray) (lb lo cp : Nat) (w : World) (h5 : zs.length ≤ 4096) (h6 : 0 < zs.length) (hlb : lb < w.heap.size) (hz : ∀ j z, zs[j]? = some z → w.cell? ⟨lb, lo + j, none⟩ = some (.int .i64 z)) (hE : OpEnv w) (hop : (Lit.int .i64 op).wf = true) (hi : opInfo op = some ⟨nm, 3, p, r⟩) :
    Calls Tryz.prog 71 #[.agg #[.int .i64 op, .int .i64 A, .int .i64 0, .slice (some ⟨lb, lo, none⟩) zs.length cp]] w fun e w' => e = .returned (.bool (labB zs A)) ∧ Below w.heap.size w w' := by
  have B0 : Below w.heap.size w (w.alloc (.cells #[.int .i64 op, .int .i64 A, .int .i64 0, .slice (some ⟨lb, lo, none⟩) zs.length cp] 33)) := (Below.refl _ _).alloc (Nat.le_refl _) _
  have HE := Lib.hid hE
  have HC := Lib.hid hop
  have HI := Lib.hid hi
  have HZ := Lib.hid hz
  clear hE hop hi hz
  go_enter Tryz.func71, Tryz.ntmps71
  go_wp2_with fail
  refine (of_lit op _ (opEnv_later HE.out B0) HC.out nm p r 3 true (by rw [HI.out]; rfl) (by rw [HI.out]; rfl)).mono ?_
  rintro e w1 ⟨rfl, c1⟩
  have B1 := B0.trans (c1.mono B0.size)
  have s0 : w.heap.size < w1.heap.size := by have := c1.size; simp at this; omega
  have r0 : w1.cell? ⟨w.heap.size, 0, none⟩ = some (.int .i64 op) := cell_later c1 (by simp)
  have r1 : w1.cell? ⟨w.heap.size, 1, none⟩ = some (.int .i64 A) := cell_later c1 (by simp)
  have r2 : w1.cell? ⟨w.heap.size, 2, none⟩ = some (.int .i64 0) := cell_later c1 (by simp)
  have r3 : w1.cell? ⟨w.heap.size, 3, none⟩ = some (.slice (some ⟨lb, lo, none⟩) zs.length cp) := cell_later c1 (by simp)
  clear c1 B0
  have BW := Lib.hid (B1.alloc B1.size (.cells #[.string nm, .int .i64 3, .string p, .string r] 98))
  have T1 := Lib.hid (show (w1.alloc (.cells #[.string nm, .int .i64 3, .string p, .string r] 98)).cell? ⟨w.heap.size, 1, none⟩ = some (.int .i64 A) from (World.cell?_alloc_past _ _ _ s0).trans r1)
  have T2 := Lib.hid (show (w1.alloc (.cells #[.string nm, .int .i64 3, .string p, .string r] 98)).cell? ⟨w.heap.size, 2, none⟩ = some (.int .i64 0) from (World.cell?_alloc_past _ _ _ s0).trans r2)
  have T3 := Lib.hid (show (w1.alloc (.cells #[.string nm, .int .i64 3, .string p, .string r] 98)).cell? ⟨w1.heap.size, 1, none⟩ = some (.int .i64 3) by simp)
  have TS := Lib.hid (show w1.heap.size < (w1.alloc (.cells #[.string nm, .int .i64 3, .string p, .string r] 98)).heap.size by simp)
  go_wp2_with fail
  clear r0 r1 r2 r3
  obtain ⟨W2, hW2⟩ : ∃ W2, w1.alloc (.cells #[.string nm, .int .i64 3, .string p, .string r] 98) = W2 := ⟨_, rfl⟩
  rw [hW2] at BW T1 T2 T3 TS ⊢
  clear hW2 B1
  go_loopw [40] (fun i wr => RelR w W2 zs i wr) (fun i _ => zs.length - (intOf i).toNat)
  case atStart => exact ⟨0, Nat.zero_le _, rfl, fun j hj => by omega, Below.refl _ _, BW.out⟩
  case round =>
    obtain ⟨k, hk, rfl, hpre, hb2, hb⟩ := hrel
    have HP := Lib.hid hpre
    clear hpre
    have u1 : wr.cell? ⟨w.heap.size, 1, none⟩ = some (.int .i64 A) := cell_later hb2 T1.out
    have u2 : wr.cell? ⟨w.heap.size, 2, none⟩ = some (.int .i64 0) := cell_later hb2 T2.out
    have u3 : wr.cell? ⟨w1.heap.size, 1, none⟩ = some (.int .i64 3) := cell_later hb2 T3.out
    have us : w1.heap.size < wr.heap.size := Nat.lt_of_lt_of_le TS.out hb2.size
    by_cases hlt : k < zs.length
    · obtain ⟨z, hz⟩ : ∃ z, zs[k]? = some z := ⟨_, List.getElem?_eq_getElem hlt⟩
      have c0 : wr.cell? ⟨lb, lo + k, none⟩ = some (.int .i64 z) := cell_later hb (HZ.out k z hz)
      have hd : decide (k < zs.length) = true := decide_eq_true hlt
      have HZK := Lib.hid hz
      clear hz
      go_wp2_with fail
      cases hw : wordB z
      · refine (word_any [z] _ 1 _ (by simp) (fun j hj => ?_)).mono ?_
        · obtain rfl : j = 0 := by simp at hj; omega
          rw [World.cell?_alloc_at _ _ _ _ (by simp)]
          rfl
        rintro e w2 ⟨rfl, rfl⟩
        rw [show allWords [z] = false by simp [allWords, hw]]
        have hno : allWords zs = false := by
          unfold allWords
          rw [List.all_eq_false]
          exact ⟨z, List.mem_of_getElem? HZK.out, by simp [hw]⟩
        have HNO := Lib.hid hno
        clear hno hw
        go_wp2_with fail
        go_ret
        rw [labB_no HNO.out]
        exact ⟨rfl, hb.alloc hb.size _⟩
      · refine (word_any [z] _ 1 _ (by simp) (fun j hj => ?_)).mono ?_
        · obtain rfl : j = 0 := by simp at hj; omega
          rw [World.cell?_alloc_at _ _ _ _ (by simp)]
          rfl
        rintro e w2 ⟨rfl, rfl⟩
        rw [show allWords [z] = true by simp [allWords, hw]]
        have HWZ := Lib.hid hw
        clear hw
        go_wp2_with fail
        go_roundw
        case rel => exact ⟨k + 1, by omega, by go_num, fun j hj => by rcases (show j < k ∨ j = k by omega) with h9 | rfl; exact HP.out j h9; rw [List.getD_eq_getElem?_getD, HZK.out]; exact HWZ.out, hb2.alloc hb2.size _, hb.alloc hb.size _⟩
        case measure => simp [intOf]; omega
    · obtain rfl : k = zs.length := by omega
      have hd : decide (zs.length < zs.length) = false := by simp
      have hy : allWords zs = true := by
        unfold allWords
        rw [List.all_eq_true]
        intro x hx
        obtain ⟨j, hj, rfl⟩ := List.getElem_of_mem hx
        have := HP.out j hj
        rw [List.getD_eq_getElem?_getD, List.getElem?_eq_getElem hj] at this
        exact this
      have HY := Lib.hid hy
      clear hy
      go_wp2_with fail
      refine (word_any [A, 0] _ 2 _ (by simp) (fun j hj => ?_)).mono ?_
      · rcases (show j = 0 ∨ j = 1 by simp at hj; omega) with rfl | rfl
        · rw [World.cell?_alloc_at _ _ _ _ (by simp)]
          rfl
        · rw [World.cell?_alloc_at _ _ _ _ (by simp)]
          rfl
      rintro e w2 ⟨rfl, rfl⟩
      go_wp2_with fail
      go_ret
      rw [labB_yes HY.out]
      exact ⟨rfl, hb.alloc hb.size _⟩
/-- Right -/
theorem right_any (op A B : Int) (lv : Value) (zs : List Int) (w : World) (hE : OpEnv w) (hop : (Lit.int .i64 op).wf = true) (hl : IntsAt w lv zs) :
    Calls Tryz.prog 71 #[.agg #[.int .i64 op, .int .i64 A, .int .i64 B, lv]] w fun e w' => e = .returned (.bool (rightB op A B zs)) ∧ Below w.heap.size w w' := by
  rcases hl with ⟨rfl, rfl⟩ | ⟨lb, lo, cp, rfl, hlb, hz⟩ | ⟨la, cp, rfl, rfl⟩
  · exact right_nil op A B none 0 w hE hop
  rotate_left
  · exact right_nil op A B la cp w hE hop
  · by_cases h0 : zs = []
    · subst h0
      exact right_nil op A B (some ⟨lb, lo, none⟩) cp w hE hop
    · have hpos : 0 < zs.length := List.length_pos_iff.2 h0
      cases hi : opInfo op with
      | none =>
        rw [show rightB op A B zs = false by unfold rightB; rw [hi]]
        exact right_none op A B _ w hE hop hi
      | some i =>
        obtain ⟨nm, sh, p, r⟩ := i
        by_cases hb : B ≠ 0 ∧ sh ≠ 5
        · rw [right_bad hi A B zs hb.1 hb.2]
          exact right_b op A B _ nm p r sh w (beq_eq_false_iff_ne.2 hb.1) (beq_eq_false_iff_ne.2 hb.2) hE hop hi
        · have e0 : rightB op A B zs = rightI ⟨nm, sh, p, r⟩ op A B zs := by unfold rightB; rw [hi]
          rw [e0]
          unfold rightI
          rw [if_neg hb]
          by_cases h3 : sh = 3
          · subst h3
            obtain rfl : B = 0 := Classical.byContradiction fun h => hb ⟨h, by decide⟩
            rw [if_neg (by simp)]
            by_cases h4 : 4096 < zs.length
            · rw [if_pos h4]
              exact right_long op A 0 nm p r w lb lo zs.length cp rfl h4 hE hop hi
            · rw [if_neg h4, tail_w 3 op A 0 (by decide) (by decide), ← words2]
              exact right_lab op A zs nm p r lb lo cp w (by omega) hpos hlb hz hE hop hi
          · rw [if_pos ⟨h0, h3⟩]
            by_cases hB : B = 0
            · exact right_l0 op A B nm p r sh w lb lo zs.length cp (by simp [hB]) (beq_eq_false_iff_ne.2 h3) hpos hE hop hi
            · have h5 : sh = 5 := Classical.byContradiction fun h => hb ⟨hB, h⟩
              exact right_l5 op A B nm p r sh w lb lo zs.length cp (beq_eq_false_iff_ne.2 hB) (by simp [h5]) (beq_eq_false_iff_ne.2 h3) hpos hE hop hi
end Go.Proofs.YtmfdabkmijbffaaGreatDoor.Op
