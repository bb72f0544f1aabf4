/-
  The law of one instruction: the walk. No condition beyond what each theorem names.
-/
import Derived.Test.YtmfdabkmijbffaaGreatDoorDeM
import Derived.Test.YtmfdabkmijbffaaGreatDoorDeP
import Derived.Test.YtmfdabkmijbffaaGreatDoorEnC
namespace Go.Proofs.YtmfdabkmijbffaaGreatDoor.Dec
open Go.RowKit Go.Maps Go.ChangeShapes Go.WideShapes Go.Proofs.YtmfdabkmijbffaaGreatDoor.Op Go.Proofs.YtmfdabkmijbffaaGreatDoor.Mod Go.Proofs.YtmfdabkmijbffaaGreatDoor.Leb Go.Proofs.YtmfdabkmijbffaaGreatDoor.Enc
set_option linter.unusedVariables false
set_option linter.unusedSimpArgs false
theorem ints_own {W : World} {B : Nat} {v : Value} {zs : List Int} (h : OwnAt W B 3 1 v (cellsI zs)) (hl : zs.length ≤ 4096) : IntsAt W v zs := by
  have hlen : (cellsI zs).length = zs.length := by unfold cellsI; rw [List.length_map]
  have hr := OwnAt.row h (by decide) (by rw [hlen]; omega)
  obtain ⟨la, c, rfl, hle, hq⟩ := hr
  rw [hlen] at hle ⊢
  cases zs with
  | nil => exact .inr (.inr ⟨la, c, rfl, rfl⟩)
  | cons z zs =>
    obtain ⟨_, b, off, rfl, hb, _⟩ := hq 0 _ rfl
    refine .inr (.inl ⟨b, off, c, rfl, hb, fun j y hy => ?_⟩)
    obtain ⟨_, b', off', e, _, hc⟩ := hq j [.int .i64 y] (by unfold cellsI; rw [List.getElem?_map, hy]; rfl)
    obtain ⟨rfl, rfl⟩ : b = b' ∧ off = off' := by simpa using e
    have := hc 0 _ rfl
    rw [Nat.mul_one, Nat.add_zero] at this
    exact this
theorem decI_len {s : List UInt8} {p : Int} : True := trivial
def CaN (w : World) (s : ByteArray) (A : InsL × Int × Int) : Prop := ∀ W, Below w.heap.size w W → Calls Tryz.prog 22 #[.string s, .int .i64 0] W (GotN W A)
theorem first_byte {code : Int} (h0 : 0 ≤ code) (h1 : code ≤ 255) : ((Enc.byteOf code).toNat : Int) = code := byte_toNat h0 (by omega)
theorem ins_size (x : InsL) (ha : (Lit.int .i64 x.a).wf = true) (hl : x.labels.length ≤ 4096) : (insL x).length ≤ 100000 := by
  unfold insL bodyL listL
  have h1 := num_len x.a
  have h2 := num_len x.b
  have h3 := num_len (x.labels.length : Nat)
  have h4 := flat_nums_len x.labels
  have h5 := sgn_len ha
  rw [List.length_cons]
  (repeat' split) <;> (try simp only [List.length_append, List.length_cons, List.length_nil]) <;> omega
set_option maxRecDepth 100000 in
set_option maxHeartbeats 8000000 in
theorem law_no (lv : Value) (op a b code : Int) (zs : List Int) (more : ByteArray) (w : World) (hE : OpEnv w) (hl : IntsAt w lv zs) (ho : InsOk ⟨op, a, b, zs⟩) (hc0 : 0 ≤ code) (hc1 : code ≤ 255) (hm : more.size ≤ 140737488351232) (hr : rightIns ⟨op, a, b, zs⟩ = false) :
    Calls Tryz.prog 6 #[.agg #[.int .i64 op, .int .i64 a, .int .i64 b, lv], .int .u8 code, .string more] w fun en w' => en = .returned (.bool true) ∧ Below w.heap.size w w' := by
  obtain ⟨la, lc, rfl⟩ := intsAt_form hl
  have HEN := Lib.hid (fun (W : World) (hW : Below w.heap.size w W) => opEnv_later hE hW)
  have k1 := fun (W : World) (hW : Below w.heap.size w W) => encI_any ⟨op, a, b, zs⟩ _ W (HEN.out W hW) (intsAt_later hl hW) ho.op ho.a
  have hee : encI ⟨op, a, b, zs⟩ = ([], false) := by unfold encI; rw [hr, if_neg (by decide)]
  rw [hee] at k1
  dsimp only at k1
  rw [show bs [] = (⟨#[]⟩ : ByteArray) from rfl] at k1
  have k2 := fun (W : World) (hW : Below w.heap.size w W) => decI_any ((⟨#[]⟩ : ByteArray) ++ more) 0 W (HEN.out W hW) (by rw [ByteArray.size_append]; show 0 + more.size ≤ _; omega)
  obtain ⟨⟨Y, nx, er⟩, hY⟩ : ∃ A, decI ((⟨#[]⟩ : ByteArray) ++ more).data.toList 0 = A := ⟨_, rfl⟩
  rw [hY] at k2
  obtain ⟨yo, ya, yb, yl⟩ := Y
  have K2 := Lib.hid (show CaN w ((⟨#[]⟩ : ByteArray) ++ more) _ from k2)
  have q1 : ¬ 9223372036854775807 < (⟨#[]⟩ : ByteArray).size + more.size := by show ¬ 9223372036854775807 < 0 + more.size; omega
  have q1' : ¬ 9223372036854775807 < 0 + more.size := by omega
  have q1'' : ¬ 9223372036854775807 < more.size := by omega
  clear hee hY k2 hr
  have K1 := Lib.hid k1
  have hT := byte_toNat hc0 (show code < 256 by omega)
  have hTL : (bs [Enc.byteOf code] ++ more).data.toList = Enc.byteOf code :: more.data.toList := by rw [ByteArray.data_append, Array.toList_append, bs_data]; rfl
  have zT : (bs [Enc.byteOf code]).size = 1 := by rw [bs_size]; rfl
  have k3 := fun (W : World) (hW : Below w.heap.size w W) => decI_any (bs [Enc.byteOf code] ++ more) 0 W (HEN.out W hW) (by rw [ByteArray.size_append]; omega)
  obtain ⟨⟨V, mx, F⟩, hV⟩ : ∃ A, decI (bs [Enc.byteOf code] ++ more).data.toList 0 = A := ⟨_, rfl⟩
  have HF1 := Lib.hid (show floatC code = true → F = 3 from fun h => by
    have h9 := decI_float (Enc.byteOf code) more.data.toList (by rw [hT]; exact h)
    rw [← hTL, hV] at h9
    exact h9)
  have HF2 := Lib.hid (show floatC code = false → (code < 2 ∨ 4 < code) → F ≠ 3 from fun h h2 => by
    have h9 := decI_plain (Enc.byteOf code) more.data.toList (by rw [hT]; exact h) (by rw [hT]; exact h2)
    rw [← hTL, hV] at h9
    exact h9)
  rw [hV] at k3
  obtain ⟨vo, va, vb, vl⟩ := V
  have hone := fun (W : World) => one_str W code
  rw [show code % 256 = code by omega] at hone
  obtain ⟨T, hTT⟩ : ∃ T, bs [Enc.byteOf code] = T := ⟨_, rfl⟩
  rw [hTT] at k3 hone zT
  have K3 := Lib.hid (show CaN w (T ++ more) _ from k3)
  have HON := Lib.hid hone
  have q2 : ¬ 9223372036854775807 < T.size + more.size := by omega
  have HC0 := Lib.hid hc0
  have HC1 := Lib.hid hc1
  obtain ⟨W1, hW1⟩ : ∃ W1, w.alloc (.cells #[.int .i64 op, .int .i64 a, .int .i64 b, .slice la zs.length lc] 33) = W1 := ⟨_, rfl⟩
  have C1 := Lib.hid (show Below w.heap.size w W1 by rw [← hW1]; exact (Below.refl _ _).alloc (Nat.le_refl _) _)
  have HI1 := Lib.hid (show W1.heap[w.heap.size]? = some (.cells #[.int .i64 op, .int .i64 a, .int .i64 b, .slice la zs.length lc] 33 (0, 0)) by rw [← hW1]; exact heap_alloc_new _ _)
  have HEX := Lib.hid (examples06 W1 (HEN.out W1 C1.out))
  have HW1 := Lib.hid hW1
  clear hW1 k1 k3 hone hTT hV hTL hT hc0 hc1 hE hl ho hm zT
  go_enter Tryz.func6, Tryz.ntmps6
  go_upto_region 1 with fail
  rw [HW1.out]
  go_wp2_with fail
  refine HEX.out.mono ?_
  rintro en w2 ⟨rfl, c2⟩
  have C2 := Lib.hid (C1.out.trans (c2.mono C1.out.size))
  have HI2 := Lib.hid ((c2.block w.heap.size (Array.getElem?_eq_some_iff.1 HI1.out).1).trans HI1.out)
  clear c2
  have i0 := cell_of_row w2 _ 0 _ _ _ HI2.out
  have i1 := cell_of_row w2 _ 1 _ _ _ HI2.out
  have i2 := cell_of_row w2 _ 2 _ _ _ HI2.out
  have i3 := cell_of_row w2 _ 3 _ _ _ HI2.out
  go_wp2_with fail
  refine (K1.out w2 C2.out).mono ?_
  rintro en w3 ⟨rfl, c3⟩
  have C3 := Lib.hid (C2.out.trans (c3.mono C2.out.size))
  have HI3 := Lib.hid ((c3.block w.heap.size (Array.getElem?_eq_some_iff.1 HI2.out).1).trans HI2.out)
  clear c3 i0 i1 i2 i3
  go_wp2_with fail
  refine (K2.out w3 C3.out).mono ?_
  rintro en w4 ⟨lv4, rfl, o4, l4, c4⟩
  obtain ⟨ya4, yc4, rfl⟩ := own_form o4.1
  have C4 := Lib.hid (C3.out.trans (c4.mono C3.out.size))
  have HI4 := Lib.hid ((c4.block w.heap.size (Array.getElem?_eq_some_iff.1 HI3.out).1).trans HI3.out)
  have hlen4 : (cellsI yl).length = yl.length := by unfold cellsI; rw [List.length_map]
  dsimp only at o4 ⊢
  rw [hlen4] at o4 ⊢
  have O4 := Lib.hid o4
  clear c4 o4 l4 hlen4
  go_upto_region 6 with fail
  obtain ⟨W5, hW5⟩ : ∃ W5, w4.alloc (.cells #[.int .i64 yo, .int .i64 ya, .int .i64 yb, .slice ya4 yl.length yc4] 33) = W5 := ⟨_, rfl⟩
  have b5 : Below w4.heap.size w4 W5 := by rw [← hW5]; exact (Below.refl _ _).alloc (Nat.le_refl _) _
  have HY5 := Lib.hid (show W5.heap[w4.heap.size]? = some (.cells #[.int .i64 yo, .int .i64 ya, .int .i64 yb, .slice ya4 yl.length yc4] 33 (0, 0)) by rw [← hW5]; exact heap_alloc_new _ _)
  have C5 := Lib.hid (C4.out.trans (b5.mono C4.out.size))
  have HI5 := Lib.hid ((b5.block w.heap.size (Array.getElem?_eq_some_iff.1 HI4.out).1).trans HI4.out)
  have O5 := Lib.hid (O4.out.later b5)
  rw [hW5]
  clear hW5 b5 q1 q1' q1''
  have hcv := HON.out W5
  go_wp2_with fail
  have b6 : Below W5.heap.size W5 (W5.alloc (.cells #[.int .u8 code] 5)) := (Below.refl _ _).alloc (Nat.le_refl _) _
  refine (K3.out _ (C5.out.trans (b6.mono C5.out.size))).mono ?_
  rintro en w7 ⟨lv7, rfl, o7, l7, c7⟩
  obtain ⟨ya7, yc7, rfl⟩ := own_form o7.1
  replace c7 := b6.trans (c7.mono b6.size)
  have C7 := Lib.hid (C5.out.trans (c7.mono C5.out.size))
  have HI7 := Lib.hid ((c7.block w.heap.size (Array.getElem?_eq_some_iff.1 HI5.out).1).trans HI5.out)
  have HY7 := Lib.hid ((c7.block w4.heap.size (Array.getElem?_eq_some_iff.1 HY5.out).1).trans HY5.out)
  have O7 := Lib.hid (O5.out.later c7)
  clear c7 b6 o7 l7 hcv q2
  go_upto_region 7 with fail
  try dsimp only
  obtain ⟨nl7, hnl7⟩ : ∃ n, (cellsI vl).length = n := ⟨_, rfl⟩
  rw [hnl7]
  obtain ⟨W8, hW8⟩ : ∃ W8, w7.alloc (.cells #[.int .i64 vo, .int .i64 va, .int .i64 vb, .slice ya7 nl7 yc7] 33) = W8 := ⟨_, rfl⟩
  have b8 : Below w7.heap.size w7 W8 := by rw [← hW8]; exact (Below.refl _ _).alloc (Nat.le_refl _) _
  have C8 := Lib.hid (C7.out.trans (b8.mono C7.out.size))
  have HI8 := Lib.hid ((b8.block w.heap.size (Array.getElem?_eq_some_iff.1 HI7.out).1).trans HI7.out)
  have HY8 := Lib.hid ((b8.block w4.heap.size (Array.getElem?_eq_some_iff.1 HY7.out).1).trans HY7.out)
  have O8 := Lib.hid (O7.out.later b8)
  rw [hW8]
  clear hW8 b8 hnl7
  have hcase : (91 ≤ code ∧ code ≤ 102) ∨ (139 ≤ code ∧ code ≤ 166) ∨ (168 ≤ code ∧ code ≤ 171) ∨ (174 ≤ code ∧ code ≤ 191) ∨ (code = 67) ∨ (code = 68) ∨ (code = 17) ∨ (code = 42) ∨ (code = 43) ∨ (code = 56) ∨ (code = 57) ∨ (0 ≤ code ∧ code ≤ 1) ∨ (2 ≤ code ∧ code ≤ 4) ∨ (5 ≤ code ∧ code ≤ 90 ∧ code ≠ 67 ∧ code ≠ 68 ∧ code ≠ 17 ∧ code ≠ 42 ∧ code ≠ 43 ∧ code ≠ 56 ∧ code ≠ 57) ∨ (103 ≤ code ∧ code ≤ 138) ∨ (167 ≤ code ∧ code ≤ 167) ∨ (172 ≤ code ∧ code ≤ 173) ∨ (192 ≤ code ∧ code ≤ 255) := by have := HC0.out; have := HC1.out; omega
  rcases hcase with h9 | h9 | h9 | h9 | h9 | h9 | h9 | h9 | h9 | h9 | h9 | h9 | h9 | h9 | h9 | h9 | h9 | h9
  · skip
    have l139 : decide (139 ≤ code) = false := decide_eq_false (by omega)
    have l91 : decide (91 ≤ code) = true := decide_eq_true (by omega)
    have l168 : decide (168 ≤ code) = false := decide_eq_false (by omega)
    have l174 : decide (174 ≤ code) = false := decide_eq_false (by omega)
    have u166 : decide (code ≤ 166) = true := decide_eq_true (by omega)
    have u102 : decide (code ≤ 102) = true := decide_eq_true (by omega)
    have u171 : decide (code ≤ 171) = true := decide_eq_true (by omega)
    have u191 : decide (code ≤ 191) = true := decide_eq_true (by omega)
    have e67 : (code == 67) = false := beq_eq_false_iff_ne.2 (by omega)
    have e68 : (code == 68) = false := beq_eq_false_iff_ne.2 (by omega)
    have e17 : (code == 17) = false := beq_eq_false_iff_ne.2 (by omega)
    have e42 : (code == 42) = false := beq_eq_false_iff_ne.2 (by omega)
    have e43 : (code == 43) = false := beq_eq_false_iff_ne.2 (by omega)
    have e56 : (code == 56) = false := beq_eq_false_iff_ne.2 (by omega)
    have e57 : (code == 57) = false := beq_eq_false_iff_ne.2 (by omega)
    have v2 : decide (code < 2) = false := decide_eq_false (by omega)
    have v4 : decide (4 < code) = true := decide_eq_true (by omega)
    have hF := HF1.out (by unfold floatC; simp only [Bool.or_eq_true, Bool.and_eq_true, decide_eq_true_eq, beq_iff_eq]; omega)
    have g1 : (F == 3) = true := by rw [hF]; rfl
    have g2 : (F != 3) = false := by rw [hF]; rfl
    clear hF h9
    go_wp2_with fail
    go_ret
    exact ⟨rfl, C8.out⟩
  · skip
    have l139 : decide (139 ≤ code) = true := decide_eq_true (by omega)
    have l91 : decide (91 ≤ code) = true := decide_eq_true (by omega)
    have l168 : decide (168 ≤ code) = false := decide_eq_false (by omega)
    have l174 : decide (174 ≤ code) = false := decide_eq_false (by omega)
    have u166 : decide (code ≤ 166) = true := decide_eq_true (by omega)
    have u102 : decide (code ≤ 102) = false := decide_eq_false (by omega)
    have u171 : decide (code ≤ 171) = true := decide_eq_true (by omega)
    have u191 : decide (code ≤ 191) = true := decide_eq_true (by omega)
    have e67 : (code == 67) = false := beq_eq_false_iff_ne.2 (by omega)
    have e68 : (code == 68) = false := beq_eq_false_iff_ne.2 (by omega)
    have e17 : (code == 17) = false := beq_eq_false_iff_ne.2 (by omega)
    have e42 : (code == 42) = false := beq_eq_false_iff_ne.2 (by omega)
    have e43 : (code == 43) = false := beq_eq_false_iff_ne.2 (by omega)
    have e56 : (code == 56) = false := beq_eq_false_iff_ne.2 (by omega)
    have e57 : (code == 57) = false := beq_eq_false_iff_ne.2 (by omega)
    have v2 : decide (code < 2) = false := decide_eq_false (by omega)
    have v4 : decide (4 < code) = true := decide_eq_true (by omega)
    have hF := HF1.out (by unfold floatC; simp only [Bool.or_eq_true, Bool.and_eq_true, decide_eq_true_eq, beq_iff_eq]; omega)
    have g1 : (F == 3) = true := by rw [hF]; rfl
    have g2 : (F != 3) = false := by rw [hF]; rfl
    clear hF h9
    go_wp2_with fail
    go_ret
    exact ⟨rfl, C8.out⟩
  · skip
    have l139 : decide (139 ≤ code) = true := decide_eq_true (by omega)
    have l91 : decide (91 ≤ code) = true := decide_eq_true (by omega)
    have l168 : decide (168 ≤ code) = true := decide_eq_true (by omega)
    have l174 : decide (174 ≤ code) = false := decide_eq_false (by omega)
    have u166 : decide (code ≤ 166) = false := decide_eq_false (by omega)
    have u102 : decide (code ≤ 102) = false := decide_eq_false (by omega)
    have u171 : decide (code ≤ 171) = true := decide_eq_true (by omega)
    have u191 : decide (code ≤ 191) = true := decide_eq_true (by omega)
    have e67 : (code == 67) = false := beq_eq_false_iff_ne.2 (by omega)
    have e68 : (code == 68) = false := beq_eq_false_iff_ne.2 (by omega)
    have e17 : (code == 17) = false := beq_eq_false_iff_ne.2 (by omega)
    have e42 : (code == 42) = false := beq_eq_false_iff_ne.2 (by omega)
    have e43 : (code == 43) = false := beq_eq_false_iff_ne.2 (by omega)
    have e56 : (code == 56) = false := beq_eq_false_iff_ne.2 (by omega)
    have e57 : (code == 57) = false := beq_eq_false_iff_ne.2 (by omega)
    have v2 : decide (code < 2) = false := decide_eq_false (by omega)
    have v4 : decide (4 < code) = true := decide_eq_true (by omega)
    have hF := HF1.out (by unfold floatC; simp only [Bool.or_eq_true, Bool.and_eq_true, decide_eq_true_eq, beq_iff_eq]; omega)
    have g1 : (F == 3) = true := by rw [hF]; rfl
    have g2 : (F != 3) = false := by rw [hF]; rfl
    clear hF h9
    go_wp2_with fail
    go_ret
    exact ⟨rfl, C8.out⟩
  · skip
    have l139 : decide (139 ≤ code) = true := decide_eq_true (by omega)
    have l91 : decide (91 ≤ code) = true := decide_eq_true (by omega)
    have l168 : decide (168 ≤ code) = true := decide_eq_true (by omega)
    have l174 : decide (174 ≤ code) = true := decide_eq_true (by omega)
    have u166 : decide (code ≤ 166) = false := decide_eq_false (by omega)
    have u102 : decide (code ≤ 102) = false := decide_eq_false (by omega)
    have u171 : decide (code ≤ 171) = false := decide_eq_false (by omega)
    have u191 : decide (code ≤ 191) = true := decide_eq_true (by omega)
    have e67 : (code == 67) = false := beq_eq_false_iff_ne.2 (by omega)
    have e68 : (code == 68) = false := beq_eq_false_iff_ne.2 (by omega)
    have e17 : (code == 17) = false := beq_eq_false_iff_ne.2 (by omega)
    have e42 : (code == 42) = false := beq_eq_false_iff_ne.2 (by omega)
    have e43 : (code == 43) = false := beq_eq_false_iff_ne.2 (by omega)
    have e56 : (code == 56) = false := beq_eq_false_iff_ne.2 (by omega)
    have e57 : (code == 57) = false := beq_eq_false_iff_ne.2 (by omega)
    have v2 : decide (code < 2) = false := decide_eq_false (by omega)
    have v4 : decide (4 < code) = true := decide_eq_true (by omega)
    have hF := HF1.out (by unfold floatC; simp only [Bool.or_eq_true, Bool.and_eq_true, decide_eq_true_eq, beq_iff_eq]; omega)
    have g1 : (F == 3) = true := by rw [hF]; rfl
    have g2 : (F != 3) = false := by rw [hF]; rfl
    clear hF h9
    go_wp2_with fail
    go_ret
    exact ⟨rfl, C8.out⟩
  · skip
    have l139 : decide (139 ≤ code) = false := decide_eq_false (by omega)
    have l91 : decide (91 ≤ code) = false := decide_eq_false (by omega)
    have l168 : decide (168 ≤ code) = false := decide_eq_false (by omega)
    have l174 : decide (174 ≤ code) = false := decide_eq_false (by omega)
    have u166 : decide (code ≤ 166) = true := decide_eq_true (by omega)
    have u102 : decide (code ≤ 102) = true := decide_eq_true (by omega)
    have u171 : decide (code ≤ 171) = true := decide_eq_true (by omega)
    have u191 : decide (code ≤ 191) = true := decide_eq_true (by omega)
    have e67 : (code == 67) = true := beq_iff_eq.2 (by omega)
    have e68 : (code == 68) = false := beq_eq_false_iff_ne.2 (by omega)
    have e17 : (code == 17) = false := beq_eq_false_iff_ne.2 (by omega)
    have e42 : (code == 42) = false := beq_eq_false_iff_ne.2 (by omega)
    have e43 : (code == 43) = false := beq_eq_false_iff_ne.2 (by omega)
    have e56 : (code == 56) = false := beq_eq_false_iff_ne.2 (by omega)
    have e57 : (code == 57) = false := beq_eq_false_iff_ne.2 (by omega)
    have v2 : decide (code < 2) = false := decide_eq_false (by omega)
    have v4 : decide (4 < code) = true := decide_eq_true (by omega)
    have hF := HF1.out (by unfold floatC; simp only [Bool.or_eq_true, Bool.and_eq_true, decide_eq_true_eq, beq_iff_eq]; omega)
    have g1 : (F == 3) = true := by rw [hF]; rfl
    have g2 : (F != 3) = false := by rw [hF]; rfl
    clear hF h9
    go_wp2_with fail
    go_ret
    exact ⟨rfl, C8.out⟩
  · skip
    have l139 : decide (139 ≤ code) = false := decide_eq_false (by omega)
    have l91 : decide (91 ≤ code) = false := decide_eq_false (by omega)
    have l168 : decide (168 ≤ code) = false := decide_eq_false (by omega)
    have l174 : decide (174 ≤ code) = false := decide_eq_false (by omega)
    have u166 : decide (code ≤ 166) = true := decide_eq_true (by omega)
    have u102 : decide (code ≤ 102) = true := decide_eq_true (by omega)
    have u171 : decide (code ≤ 171) = true := decide_eq_true (by omega)
    have u191 : decide (code ≤ 191) = true := decide_eq_true (by omega)
    have e67 : (code == 67) = false := beq_eq_false_iff_ne.2 (by omega)
    have e68 : (code == 68) = true := beq_iff_eq.2 (by omega)
    have e17 : (code == 17) = false := beq_eq_false_iff_ne.2 (by omega)
    have e42 : (code == 42) = false := beq_eq_false_iff_ne.2 (by omega)
    have e43 : (code == 43) = false := beq_eq_false_iff_ne.2 (by omega)
    have e56 : (code == 56) = false := beq_eq_false_iff_ne.2 (by omega)
    have e57 : (code == 57) = false := beq_eq_false_iff_ne.2 (by omega)
    have v2 : decide (code < 2) = false := decide_eq_false (by omega)
    have v4 : decide (4 < code) = true := decide_eq_true (by omega)
    have hF := HF1.out (by unfold floatC; simp only [Bool.or_eq_true, Bool.and_eq_true, decide_eq_true_eq, beq_iff_eq]; omega)
    have g1 : (F == 3) = true := by rw [hF]; rfl
    have g2 : (F != 3) = false := by rw [hF]; rfl
    clear hF h9
    go_wp2_with fail
    go_ret
    exact ⟨rfl, C8.out⟩
  · skip
    have l139 : decide (139 ≤ code) = false := decide_eq_false (by omega)
    have l91 : decide (91 ≤ code) = false := decide_eq_false (by omega)
    have l168 : decide (168 ≤ code) = false := decide_eq_false (by omega)
    have l174 : decide (174 ≤ code) = false := decide_eq_false (by omega)
    have u166 : decide (code ≤ 166) = true := decide_eq_true (by omega)
    have u102 : decide (code ≤ 102) = true := decide_eq_true (by omega)
    have u171 : decide (code ≤ 171) = true := decide_eq_true (by omega)
    have u191 : decide (code ≤ 191) = true := decide_eq_true (by omega)
    have e67 : (code == 67) = false := beq_eq_false_iff_ne.2 (by omega)
    have e68 : (code == 68) = false := beq_eq_false_iff_ne.2 (by omega)
    have e17 : (code == 17) = true := beq_iff_eq.2 (by omega)
    have e42 : (code == 42) = false := beq_eq_false_iff_ne.2 (by omega)
    have e43 : (code == 43) = false := beq_eq_false_iff_ne.2 (by omega)
    have e56 : (code == 56) = false := beq_eq_false_iff_ne.2 (by omega)
    have e57 : (code == 57) = false := beq_eq_false_iff_ne.2 (by omega)
    have v2 : decide (code < 2) = false := decide_eq_false (by omega)
    have v4 : decide (4 < code) = true := decide_eq_true (by omega)
    have hF := HF1.out (by unfold floatC; simp only [Bool.or_eq_true, Bool.and_eq_true, decide_eq_true_eq, beq_iff_eq]; omega)
    have g1 : (F == 3) = true := by rw [hF]; rfl
    have g2 : (F != 3) = false := by rw [hF]; rfl
    clear hF h9
    go_wp2_with fail
    go_ret
    exact ⟨rfl, C8.out⟩
  · skip
    have l139 : decide (139 ≤ code) = false := decide_eq_false (by omega)
    have l91 : decide (91 ≤ code) = false := decide_eq_false (by omega)
    have l168 : decide (168 ≤ code) = false := decide_eq_false (by omega)
    have l174 : decide (174 ≤ code) = false := decide_eq_false (by omega)
    have u166 : decide (code ≤ 166) = true := decide_eq_true (by omega)
    have u102 : decide (code ≤ 102) = true := decide_eq_true (by omega)
    have u171 : decide (code ≤ 171) = true := decide_eq_true (by omega)
    have u191 : decide (code ≤ 191) = true := decide_eq_true (by omega)
    have e67 : (code == 67) = false := beq_eq_false_iff_ne.2 (by omega)
    have e68 : (code == 68) = false := beq_eq_false_iff_ne.2 (by omega)
    have e17 : (code == 17) = false := beq_eq_false_iff_ne.2 (by omega)
    have e42 : (code == 42) = true := beq_iff_eq.2 (by omega)
    have e43 : (code == 43) = false := beq_eq_false_iff_ne.2 (by omega)
    have e56 : (code == 56) = false := beq_eq_false_iff_ne.2 (by omega)
    have e57 : (code == 57) = false := beq_eq_false_iff_ne.2 (by omega)
    have v2 : decide (code < 2) = false := decide_eq_false (by omega)
    have v4 : decide (4 < code) = true := decide_eq_true (by omega)
    have hF := HF1.out (by unfold floatC; simp only [Bool.or_eq_true, Bool.and_eq_true, decide_eq_true_eq, beq_iff_eq]; omega)
    have g1 : (F == 3) = true := by rw [hF]; rfl
    have g2 : (F != 3) = false := by rw [hF]; rfl
    clear hF h9
    go_wp2_with fail
    go_ret
    exact ⟨rfl, C8.out⟩
  · skip
    have l139 : decide (139 ≤ code) = false := decide_eq_false (by omega)
    have l91 : decide (91 ≤ code) = false := decide_eq_false (by omega)
    have l168 : decide (168 ≤ code) = false := decide_eq_false (by omega)
    have l174 : decide (174 ≤ code) = false := decide_eq_false (by omega)
    have u166 : decide (code ≤ 166) = true := decide_eq_true (by omega)
    have u102 : decide (code ≤ 102) = true := decide_eq_true (by omega)
    have u171 : decide (code ≤ 171) = true := decide_eq_true (by omega)
    have u191 : decide (code ≤ 191) = true := decide_eq_true (by omega)
    have e67 : (code == 67) = false := beq_eq_false_iff_ne.2 (by omega)
    have e68 : (code == 68) = false := beq_eq_false_iff_ne.2 (by omega)
    have e17 : (code == 17) = false := beq_eq_false_iff_ne.2 (by omega)
    have e42 : (code == 42) = false := beq_eq_false_iff_ne.2 (by omega)
    have e43 : (code == 43) = true := beq_iff_eq.2 (by omega)
    have e56 : (code == 56) = false := beq_eq_false_iff_ne.2 (by omega)
    have e57 : (code == 57) = false := beq_eq_false_iff_ne.2 (by omega)
    have v2 : decide (code < 2) = false := decide_eq_false (by omega)
    have v4 : decide (4 < code) = true := decide_eq_true (by omega)
    have hF := HF1.out (by unfold floatC; simp only [Bool.or_eq_true, Bool.and_eq_true, decide_eq_true_eq, beq_iff_eq]; omega)
    have g1 : (F == 3) = true := by rw [hF]; rfl
    have g2 : (F != 3) = false := by rw [hF]; rfl
    clear hF h9
    go_wp2_with fail
    go_ret
    exact ⟨rfl, C8.out⟩
  · skip
    have l139 : decide (139 ≤ code) = false := decide_eq_false (by omega)
    have l91 : decide (91 ≤ code) = false := decide_eq_false (by omega)
    have l168 : decide (168 ≤ code) = false := decide_eq_false (by omega)
    have l174 : decide (174 ≤ code) = false := decide_eq_false (by omega)
    have u166 : decide (code ≤ 166) = true := decide_eq_true (by omega)
    have u102 : decide (code ≤ 102) = true := decide_eq_true (by omega)
    have u171 : decide (code ≤ 171) = true := decide_eq_true (by omega)
    have u191 : decide (code ≤ 191) = true := decide_eq_true (by omega)
    have e67 : (code == 67) = false := beq_eq_false_iff_ne.2 (by omega)
    have e68 : (code == 68) = false := beq_eq_false_iff_ne.2 (by omega)
    have e17 : (code == 17) = false := beq_eq_false_iff_ne.2 (by omega)
    have e42 : (code == 42) = false := beq_eq_false_iff_ne.2 (by omega)
    have e43 : (code == 43) = false := beq_eq_false_iff_ne.2 (by omega)
    have e56 : (code == 56) = true := beq_iff_eq.2 (by omega)
    have e57 : (code == 57) = false := beq_eq_false_iff_ne.2 (by omega)
    have v2 : decide (code < 2) = false := decide_eq_false (by omega)
    have v4 : decide (4 < code) = true := decide_eq_true (by omega)
    have hF := HF1.out (by unfold floatC; simp only [Bool.or_eq_true, Bool.and_eq_true, decide_eq_true_eq, beq_iff_eq]; omega)
    have g1 : (F == 3) = true := by rw [hF]; rfl
    have g2 : (F != 3) = false := by rw [hF]; rfl
    clear hF h9
    go_wp2_with fail
    go_ret
    exact ⟨rfl, C8.out⟩
  · skip
    have l139 : decide (139 ≤ code) = false := decide_eq_false (by omega)
    have l91 : decide (91 ≤ code) = false := decide_eq_false (by omega)
    have l168 : decide (168 ≤ code) = false := decide_eq_false (by omega)
    have l174 : decide (174 ≤ code) = false := decide_eq_false (by omega)
    have u166 : decide (code ≤ 166) = true := decide_eq_true (by omega)
    have u102 : decide (code ≤ 102) = true := decide_eq_true (by omega)
    have u171 : decide (code ≤ 171) = true := decide_eq_true (by omega)
    have u191 : decide (code ≤ 191) = true := decide_eq_true (by omega)
    have e67 : (code == 67) = false := beq_eq_false_iff_ne.2 (by omega)
    have e68 : (code == 68) = false := beq_eq_false_iff_ne.2 (by omega)
    have e17 : (code == 17) = false := beq_eq_false_iff_ne.2 (by omega)
    have e42 : (code == 42) = false := beq_eq_false_iff_ne.2 (by omega)
    have e43 : (code == 43) = false := beq_eq_false_iff_ne.2 (by omega)
    have e56 : (code == 56) = false := beq_eq_false_iff_ne.2 (by omega)
    have e57 : (code == 57) = true := beq_iff_eq.2 (by omega)
    have v2 : decide (code < 2) = false := decide_eq_false (by omega)
    have v4 : decide (4 < code) = true := decide_eq_true (by omega)
    have hF := HF1.out (by unfold floatC; simp only [Bool.or_eq_true, Bool.and_eq_true, decide_eq_true_eq, beq_iff_eq]; omega)
    have g1 : (F == 3) = true := by rw [hF]; rfl
    have g2 : (F != 3) = false := by rw [hF]; rfl
    clear hF h9
    go_wp2_with fail
    go_ret
    exact ⟨rfl, C8.out⟩
  · skip
    have l139 : decide (139 ≤ code) = false := decide_eq_false (by omega)
    have l91 : decide (91 ≤ code) = false := decide_eq_false (by omega)
    have l168 : decide (168 ≤ code) = false := decide_eq_false (by omega)
    have l174 : decide (174 ≤ code) = false := decide_eq_false (by omega)
    have u166 : decide (code ≤ 166) = true := decide_eq_true (by omega)
    have u102 : decide (code ≤ 102) = true := decide_eq_true (by omega)
    have u171 : decide (code ≤ 171) = true := decide_eq_true (by omega)
    have u191 : decide (code ≤ 191) = true := decide_eq_true (by omega)
    have e67 : (code == 67) = false := beq_eq_false_iff_ne.2 (by omega)
    have e68 : (code == 68) = false := beq_eq_false_iff_ne.2 (by omega)
    have e17 : (code == 17) = false := beq_eq_false_iff_ne.2 (by omega)
    have e42 : (code == 42) = false := beq_eq_false_iff_ne.2 (by omega)
    have e43 : (code == 43) = false := beq_eq_false_iff_ne.2 (by omega)
    have e56 : (code == 56) = false := beq_eq_false_iff_ne.2 (by omega)
    have e57 : (code == 57) = false := beq_eq_false_iff_ne.2 (by omega)
    have v2 : decide (code < 2) = true := decide_eq_true (by omega)
    have v4 : decide (4 < code) = false := decide_eq_false (by omega)
    have hF := HF2.out (by rw [Bool.eq_false_iff]; intro h; unfold floatC at h; simp only [Bool.or_eq_true, Bool.and_eq_true, decide_eq_true_eq, beq_iff_eq] at h; omega) (by omega)
    have g1 : (F == 3) = false := beq_eq_false_iff_ne.2 hF
    have g2 : (F != 3) = true := bne_iff_ne.2 hF
    clear hF h9
    go_wp2_with fail
    go_ret
    exact ⟨rfl, C8.out⟩
  · skip
    have l139 : decide (139 ≤ code) = false := decide_eq_false (by omega)
    have l91 : decide (91 ≤ code) = false := decide_eq_false (by omega)
    have l168 : decide (168 ≤ code) = false := decide_eq_false (by omega)
    have l174 : decide (174 ≤ code) = false := decide_eq_false (by omega)
    have u166 : decide (code ≤ 166) = true := decide_eq_true (by omega)
    have u102 : decide (code ≤ 102) = true := decide_eq_true (by omega)
    have u171 : decide (code ≤ 171) = true := decide_eq_true (by omega)
    have u191 : decide (code ≤ 191) = true := decide_eq_true (by omega)
    have e67 : (code == 67) = false := beq_eq_false_iff_ne.2 (by omega)
    have e68 : (code == 68) = false := beq_eq_false_iff_ne.2 (by omega)
    have e17 : (code == 17) = false := beq_eq_false_iff_ne.2 (by omega)
    have e42 : (code == 42) = false := beq_eq_false_iff_ne.2 (by omega)
    have e43 : (code == 43) = false := beq_eq_false_iff_ne.2 (by omega)
    have e56 : (code == 56) = false := beq_eq_false_iff_ne.2 (by omega)
    have e57 : (code == 57) = false := beq_eq_false_iff_ne.2 (by omega)
    have v2 : decide (code < 2) = false := decide_eq_false (by omega)
    have v4 : decide (4 < code) = false := decide_eq_false (by omega)
    clear h9
    go_wp2_with fail
    go_ret
    exact ⟨rfl, C8.out⟩
  · skip
    have l139 : decide (139 ≤ code) = false := decide_eq_false (by omega)
    have l91 : decide (91 ≤ code) = false := decide_eq_false (by omega)
    have l168 : decide (168 ≤ code) = false := decide_eq_false (by omega)
    have l174 : decide (174 ≤ code) = false := decide_eq_false (by omega)
    have u166 : decide (code ≤ 166) = true := decide_eq_true (by omega)
    have u102 : decide (code ≤ 102) = true := decide_eq_true (by omega)
    have u171 : decide (code ≤ 171) = true := decide_eq_true (by omega)
    have u191 : decide (code ≤ 191) = true := decide_eq_true (by omega)
    have e67 : (code == 67) = false := beq_eq_false_iff_ne.2 (by omega)
    have e68 : (code == 68) = false := beq_eq_false_iff_ne.2 (by omega)
    have e17 : (code == 17) = false := beq_eq_false_iff_ne.2 (by omega)
    have e42 : (code == 42) = false := beq_eq_false_iff_ne.2 (by omega)
    have e43 : (code == 43) = false := beq_eq_false_iff_ne.2 (by omega)
    have e56 : (code == 56) = false := beq_eq_false_iff_ne.2 (by omega)
    have e57 : (code == 57) = false := beq_eq_false_iff_ne.2 (by omega)
    have v2 : decide (code < 2) = false := decide_eq_false (by omega)
    have v4 : decide (4 < code) = true := decide_eq_true (by omega)
    have hF := HF2.out (by rw [Bool.eq_false_iff]; intro h; unfold floatC at h; simp only [Bool.or_eq_true, Bool.and_eq_true, decide_eq_true_eq, beq_iff_eq] at h; omega) (by omega)
    have g1 : (F == 3) = false := beq_eq_false_iff_ne.2 hF
    have g2 : (F != 3) = true := bne_iff_ne.2 hF
    clear hF h9
    go_wp2_with fail
    go_ret
    exact ⟨rfl, C8.out⟩
  · skip
    have l139 : decide (139 ≤ code) = false := decide_eq_false (by omega)
    have l91 : decide (91 ≤ code) = true := decide_eq_true (by omega)
    have l168 : decide (168 ≤ code) = false := decide_eq_false (by omega)
    have l174 : decide (174 ≤ code) = false := decide_eq_false (by omega)
    have u166 : decide (code ≤ 166) = true := decide_eq_true (by omega)
    have u102 : decide (code ≤ 102) = false := decide_eq_false (by omega)
    have u171 : decide (code ≤ 171) = true := decide_eq_true (by omega)
    have u191 : decide (code ≤ 191) = true := decide_eq_true (by omega)
    have e67 : (code == 67) = false := beq_eq_false_iff_ne.2 (by omega)
    have e68 : (code == 68) = false := beq_eq_false_iff_ne.2 (by omega)
    have e17 : (code == 17) = false := beq_eq_false_iff_ne.2 (by omega)
    have e42 : (code == 42) = false := beq_eq_false_iff_ne.2 (by omega)
    have e43 : (code == 43) = false := beq_eq_false_iff_ne.2 (by omega)
    have e56 : (code == 56) = false := beq_eq_false_iff_ne.2 (by omega)
    have e57 : (code == 57) = false := beq_eq_false_iff_ne.2 (by omega)
    have v2 : decide (code < 2) = false := decide_eq_false (by omega)
    have v4 : decide (4 < code) = true := decide_eq_true (by omega)
    have hF := HF2.out (by rw [Bool.eq_false_iff]; intro h; unfold floatC at h; simp only [Bool.or_eq_true, Bool.and_eq_true, decide_eq_true_eq, beq_iff_eq] at h; omega) (by omega)
    have g1 : (F == 3) = false := beq_eq_false_iff_ne.2 hF
    have g2 : (F != 3) = true := bne_iff_ne.2 hF
    clear hF h9
    go_wp2_with fail
    go_ret
    exact ⟨rfl, C8.out⟩
  · skip
    have l139 : decide (139 ≤ code) = true := decide_eq_true (by omega)
    have l91 : decide (91 ≤ code) = true := decide_eq_true (by omega)
    have l168 : decide (168 ≤ code) = false := decide_eq_false (by omega)
    have l174 : decide (174 ≤ code) = false := decide_eq_false (by omega)
    have u166 : decide (code ≤ 166) = false := decide_eq_false (by omega)
    have u102 : decide (code ≤ 102) = false := decide_eq_false (by omega)
    have u171 : decide (code ≤ 171) = true := decide_eq_true (by omega)
    have u191 : decide (code ≤ 191) = true := decide_eq_true (by omega)
    have e67 : (code == 67) = false := beq_eq_false_iff_ne.2 (by omega)
    have e68 : (code == 68) = false := beq_eq_false_iff_ne.2 (by omega)
    have e17 : (code == 17) = false := beq_eq_false_iff_ne.2 (by omega)
    have e42 : (code == 42) = false := beq_eq_false_iff_ne.2 (by omega)
    have e43 : (code == 43) = false := beq_eq_false_iff_ne.2 (by omega)
    have e56 : (code == 56) = false := beq_eq_false_iff_ne.2 (by omega)
    have e57 : (code == 57) = false := beq_eq_false_iff_ne.2 (by omega)
    have v2 : decide (code < 2) = false := decide_eq_false (by omega)
    have v4 : decide (4 < code) = true := decide_eq_true (by omega)
    have hF := HF2.out (by rw [Bool.eq_false_iff]; intro h; unfold floatC at h; simp only [Bool.or_eq_true, Bool.and_eq_true, decide_eq_true_eq, beq_iff_eq] at h; omega) (by omega)
    have g1 : (F == 3) = false := beq_eq_false_iff_ne.2 hF
    have g2 : (F != 3) = true := bne_iff_ne.2 hF
    clear hF h9
    go_wp2_with fail
    go_ret
    exact ⟨rfl, C8.out⟩
  · skip
    have l139 : decide (139 ≤ code) = true := decide_eq_true (by omega)
    have l91 : decide (91 ≤ code) = true := decide_eq_true (by omega)
    have l168 : decide (168 ≤ code) = true := decide_eq_true (by omega)
    have l174 : decide (174 ≤ code) = false := decide_eq_false (by omega)
    have u166 : decide (code ≤ 166) = false := decide_eq_false (by omega)
    have u102 : decide (code ≤ 102) = false := decide_eq_false (by omega)
    have u171 : decide (code ≤ 171) = false := decide_eq_false (by omega)
    have u191 : decide (code ≤ 191) = true := decide_eq_true (by omega)
    have e67 : (code == 67) = false := beq_eq_false_iff_ne.2 (by omega)
    have e68 : (code == 68) = false := beq_eq_false_iff_ne.2 (by omega)
    have e17 : (code == 17) = false := beq_eq_false_iff_ne.2 (by omega)
    have e42 : (code == 42) = false := beq_eq_false_iff_ne.2 (by omega)
    have e43 : (code == 43) = false := beq_eq_false_iff_ne.2 (by omega)
    have e56 : (code == 56) = false := beq_eq_false_iff_ne.2 (by omega)
    have e57 : (code == 57) = false := beq_eq_false_iff_ne.2 (by omega)
    have v2 : decide (code < 2) = false := decide_eq_false (by omega)
    have v4 : decide (4 < code) = true := decide_eq_true (by omega)
    have hF := HF2.out (by rw [Bool.eq_false_iff]; intro h; unfold floatC at h; simp only [Bool.or_eq_true, Bool.and_eq_true, decide_eq_true_eq, beq_iff_eq] at h; omega) (by omega)
    have g1 : (F == 3) = false := beq_eq_false_iff_ne.2 hF
    have g2 : (F != 3) = true := bne_iff_ne.2 hF
    clear hF h9
    go_wp2_with fail
    go_ret
    exact ⟨rfl, C8.out⟩
  · skip
    have l139 : decide (139 ≤ code) = true := decide_eq_true (by omega)
    have l91 : decide (91 ≤ code) = true := decide_eq_true (by omega)
    have l168 : decide (168 ≤ code) = true := decide_eq_true (by omega)
    have l174 : decide (174 ≤ code) = true := decide_eq_true (by omega)
    have u166 : decide (code ≤ 166) = false := decide_eq_false (by omega)
    have u102 : decide (code ≤ 102) = false := decide_eq_false (by omega)
    have u171 : decide (code ≤ 171) = false := decide_eq_false (by omega)
    have u191 : decide (code ≤ 191) = false := decide_eq_false (by omega)
    have e67 : (code == 67) = false := beq_eq_false_iff_ne.2 (by omega)
    have e68 : (code == 68) = false := beq_eq_false_iff_ne.2 (by omega)
    have e17 : (code == 17) = false := beq_eq_false_iff_ne.2 (by omega)
    have e42 : (code == 42) = false := beq_eq_false_iff_ne.2 (by omega)
    have e43 : (code == 43) = false := beq_eq_false_iff_ne.2 (by omega)
    have e56 : (code == 56) = false := beq_eq_false_iff_ne.2 (by omega)
    have e57 : (code == 57) = false := beq_eq_false_iff_ne.2 (by omega)
    have v2 : decide (code < 2) = false := decide_eq_false (by omega)
    have v4 : decide (4 < code) = true := decide_eq_true (by omega)
    have hF := HF2.out (by rw [Bool.eq_false_iff]; intro h; unfold floatC at h; simp only [Bool.or_eq_true, Bool.and_eq_true, decide_eq_true_eq, beq_iff_eq] at h; omega) (by omega)
    have g1 : (F == 3) = false := beq_eq_false_iff_ne.2 hF
    have g2 : (F != 3) = true := bne_iff_ne.2 hF
    clear hF h9
    go_wp2_with fail
    go_ret
    exact ⟨rfl, C8.out⟩
set_option maxRecDepth 100000 in
set_option maxHeartbeats 8000000 in
theorem law_yes (lv : Value) (op a b code : Int) (zs : List Int) (more : ByteArray) (w : World) (hE : OpEnv w) (hl : IntsAt w lv zs) (ho : InsOk ⟨op, a, b, zs⟩) (hc0 : 0 ≤ code) (hc1 : code ≤ 255) (hm : more.size ≤ 140737488351232) (hr : rightIns ⟨op, a, b, zs⟩ = true) :
    Calls Tryz.prog 6 #[.agg #[.int .i64 op, .int .i64 a, .int .i64 b, lv], .int .u8 code, .string more] w fun en w' => en = .returned (.bool true) ∧ Below w.heap.size w w' := by
  obtain ⟨la, lc, rfl⟩ := intsAt_form hl
  have HEN := Lib.hid (fun (W : World) (hW : Below w.heap.size w W) => opEnv_later hE hW)
  have k1 := fun (W : World) (hW : Below w.heap.size w W) => encI_any ⟨op, a, b, zs⟩ _ W (HEN.out W hW) (intsAt_later hl hW) ho.op ho.a
  have hee : encI ⟨op, a, b, zs⟩ = (insL ⟨op, a, b, zs⟩, true) := by unfold encI; rw [hr, if_pos rfl]
  rw [hee] at k1
  have hz : zs.length ≤ 4096 := rightIns_len hr
  have zS : (bs (insL ⟨op, a, b, zs⟩)).size ≤ 100000 := by rw [bs_size]; exact ins_size _ ho.a hz
  have hD : decI (bs (insL ⟨op, a, b, zs⟩) ++ more).data.toList 0 = (⟨op, a, b, zs⟩, ((bs (insL ⟨op, a, b, zs⟩)).size : Int), 0) := by
    rw [ByteArray.data_append, Array.toList_append, bs_data, decI_ins hr ho.a, bs_size]
  obtain ⟨S, hS⟩ : ∃ S, bs (insL ⟨op, a, b, zs⟩) = S := ⟨_, rfl⟩
  dsimp only at k1
  rw [hS] at k1 zS hD
  have k2 := fun (W : World) (hW : Below w.heap.size w W) => decI_any (S ++ more) 0 W (HEN.out W hW) (by rw [ByteArray.size_append]; omega)
  rw [hD] at k2
  have K2 := Lib.hid (show CaN w (S ++ more) _ from k2)
  have hss : (S.toList == S.toList) = true := by simp
  have k5 := fun (W : World) (v : Value) (hW : Below w.heap.size w W) (hv : IntsAt W v zs) => encI_any ⟨op, a, b, zs⟩ v W (HEN.out W hW) hv ho.op ho.a
  rw [hee] at k5
  dsimp only at k5
  rw [hS] at k5
  have K5 := Lib.hid k5
  have HZL := Lib.hid hz
  have q1 : ¬ 9223372036854775807 < S.size + more.size := by omega
  clear hee hz zS hD hS k2 k5 hr
  have K1 := Lib.hid k1
  have hT := byte_toNat hc0 (show code < 256 by omega)
  have hTL : (bs [Enc.byteOf code] ++ more).data.toList = Enc.byteOf code :: more.data.toList := by rw [ByteArray.data_append, Array.toList_append, bs_data]; rfl
  have zT : (bs [Enc.byteOf code]).size = 1 := by rw [bs_size]; rfl
  have k3 := fun (W : World) (hW : Below w.heap.size w W) => decI_any (bs [Enc.byteOf code] ++ more) 0 W (HEN.out W hW) (by rw [ByteArray.size_append]; omega)
  obtain ⟨⟨V, mx, F⟩, hV⟩ : ∃ A, decI (bs [Enc.byteOf code] ++ more).data.toList 0 = A := ⟨_, rfl⟩
  have HF1 := Lib.hid (show floatC code = true → F = 3 from fun h => by
    have h9 := decI_float (Enc.byteOf code) more.data.toList (by rw [hT]; exact h)
    rw [← hTL, hV] at h9
    exact h9)
  have HF2 := Lib.hid (show floatC code = false → (code < 2 ∨ 4 < code) → F ≠ 3 from fun h h2 => by
    have h9 := decI_plain (Enc.byteOf code) more.data.toList (by rw [hT]; exact h) (by rw [hT]; exact h2)
    rw [← hTL, hV] at h9
    exact h9)
  rw [hV] at k3
  obtain ⟨vo, va, vb, vl⟩ := V
  have hone := fun (W : World) => one_str W code
  rw [show code % 256 = code by omega] at hone
  obtain ⟨T, hTT⟩ : ∃ T, bs [Enc.byteOf code] = T := ⟨_, rfl⟩
  rw [hTT] at k3 hone zT
  have K3 := Lib.hid (show CaN w (T ++ more) _ from k3)
  have HON := Lib.hid hone
  have q2 : ¬ 9223372036854775807 < T.size + more.size := by omega
  have HC0 := Lib.hid hc0
  have HC1 := Lib.hid hc1
  obtain ⟨W1, hW1⟩ : ∃ W1, w.alloc (.cells #[.int .i64 op, .int .i64 a, .int .i64 b, .slice la zs.length lc] 33) = W1 := ⟨_, rfl⟩
  have C1 := Lib.hid (show Below w.heap.size w W1 by rw [← hW1]; exact (Below.refl _ _).alloc (Nat.le_refl _) _)
  have HI1 := Lib.hid (show W1.heap[w.heap.size]? = some (.cells #[.int .i64 op, .int .i64 a, .int .i64 b, .slice la zs.length lc] 33 (0, 0)) by rw [← hW1]; exact heap_alloc_new _ _)
  have HEX := Lib.hid (examples06 W1 (HEN.out W1 C1.out))
  have HW1 := Lib.hid hW1
  clear hW1 k1 k3 hone hTT hV hTL hT hc0 hc1 hE hl ho hm zT
  go_enter Tryz.func6, Tryz.ntmps6
  go_upto_region 1 with fail
  rw [HW1.out]
  go_wp2_with fail
  refine HEX.out.mono ?_
  rintro en w2 ⟨rfl, c2⟩
  have C2 := Lib.hid (C1.out.trans (c2.mono C1.out.size))
  have HI2 := Lib.hid ((c2.block w.heap.size (Array.getElem?_eq_some_iff.1 HI1.out).1).trans HI1.out)
  clear c2
  have i0 := cell_of_row w2 _ 0 _ _ _ HI2.out
  have i1 := cell_of_row w2 _ 1 _ _ _ HI2.out
  have i2 := cell_of_row w2 _ 2 _ _ _ HI2.out
  have i3 := cell_of_row w2 _ 3 _ _ _ HI2.out
  go_wp2_with fail
  refine (K1.out w2 C2.out).mono ?_
  rintro en w3 ⟨rfl, c3⟩
  have C3 := Lib.hid (C2.out.trans (c3.mono C2.out.size))
  have HI3 := Lib.hid ((c3.block w.heap.size (Array.getElem?_eq_some_iff.1 HI2.out).1).trans HI2.out)
  clear c3 i0 i1 i2 i3
  go_wp2_with fail
  refine (K2.out w3 C3.out).mono ?_
  rintro en w4 ⟨lv4, rfl, o4, l4, c4⟩
  obtain ⟨ya4, yc4, rfl⟩ := own_form o4.1
  have C4 := Lib.hid (C3.out.trans (c4.mono C3.out.size))
  have HI4 := Lib.hid ((c4.block w.heap.size (Array.getElem?_eq_some_iff.1 HI3.out).1).trans HI3.out)
  have hlen4 : (cellsI zs).length = zs.length := by unfold cellsI; rw [List.length_map]
  dsimp only at o4 ⊢
  rw [hlen4] at o4 ⊢
  have O4 := Lib.hid o4
  clear c4 o4 l4 hlen4
  go_upto_region 6 with fail
  obtain ⟨W5, hW5⟩ : ∃ W5, w4.alloc (.cells #[.int .i64 op, .int .i64 a, .int .i64 b, .slice ya4 zs.length yc4] 33) = W5 := ⟨_, rfl⟩
  have b5 : Below w4.heap.size w4 W5 := by rw [← hW5]; exact (Below.refl _ _).alloc (Nat.le_refl _) _
  have HY5 := Lib.hid (show W5.heap[w4.heap.size]? = some (.cells #[.int .i64 op, .int .i64 a, .int .i64 b, .slice ya4 zs.length yc4] 33 (0, 0)) by rw [← hW5]; exact heap_alloc_new _ _)
  have C5 := Lib.hid (C4.out.trans (b5.mono C4.out.size))
  have HI5 := Lib.hid ((b5.block w.heap.size (Array.getElem?_eq_some_iff.1 HI4.out).1).trans HI4.out)
  have O5 := Lib.hid (O4.out.later b5)
  rw [hW5]
  clear hW5 b5 q1
  have hcv := HON.out W5
  go_wp2_with fail
  have b6 : Below W5.heap.size W5 (W5.alloc (.cells #[.int .u8 code] 5)) := (Below.refl _ _).alloc (Nat.le_refl _) _
  refine (K3.out _ (C5.out.trans (b6.mono C5.out.size))).mono ?_
  rintro en w7 ⟨lv7, rfl, o7, l7, c7⟩
  obtain ⟨ya7, yc7, rfl⟩ := own_form o7.1
  replace c7 := b6.trans (c7.mono b6.size)
  have C7 := Lib.hid (C5.out.trans (c7.mono C5.out.size))
  have HI7 := Lib.hid ((c7.block w.heap.size (Array.getElem?_eq_some_iff.1 HI5.out).1).trans HI5.out)
  have HY7 := Lib.hid ((c7.block w4.heap.size (Array.getElem?_eq_some_iff.1 HY5.out).1).trans HY5.out)
  have O7 := Lib.hid (O5.out.later c7)
  clear c7 b6 o7 l7 hcv q2
  go_upto_region 7 with fail
  try dsimp only
  obtain ⟨nl7, hnl7⟩ : ∃ n, (cellsI vl).length = n := ⟨_, rfl⟩
  rw [hnl7]
  obtain ⟨W8, hW8⟩ : ∃ W8, w7.alloc (.cells #[.int .i64 vo, .int .i64 va, .int .i64 vb, .slice ya7 nl7 yc7] 33) = W8 := ⟨_, rfl⟩
  have b8 : Below w7.heap.size w7 W8 := by rw [← hW8]; exact (Below.refl _ _).alloc (Nat.le_refl _) _
  have C8 := Lib.hid (C7.out.trans (b8.mono C7.out.size))
  have HI8 := Lib.hid ((b8.block w.heap.size (Array.getElem?_eq_some_iff.1 HI7.out).1).trans HI7.out)
  have HY8 := Lib.hid ((b8.block w4.heap.size (Array.getElem?_eq_some_iff.1 HY7.out).1).trans HY7.out)
  have O8 := Lib.hid (O7.out.later b8)
  rw [hW8]
  clear hW8 b8 hnl7
  have hcase : (91 ≤ code ∧ code ≤ 102) ∨ (139 ≤ code ∧ code ≤ 166) ∨ (168 ≤ code ∧ code ≤ 171) ∨ (174 ≤ code ∧ code ≤ 191) ∨ (code = 67) ∨ (code = 68) ∨ (code = 17) ∨ (code = 42) ∨ (code = 43) ∨ (code = 56) ∨ (code = 57) ∨ (0 ≤ code ∧ code ≤ 1) ∨ (2 ≤ code ∧ code ≤ 4) ∨ (5 ≤ code ∧ code ≤ 90 ∧ code ≠ 67 ∧ code ≠ 68 ∧ code ≠ 17 ∧ code ≠ 42 ∧ code ≠ 43 ∧ code ≠ 56 ∧ code ≠ 57) ∨ (103 ≤ code ∧ code ≤ 138) ∨ (167 ≤ code ∧ code ≤ 167) ∨ (172 ≤ code ∧ code ≤ 173) ∨ (192 ≤ code ∧ code ≤ 255) := by have := HC0.out; have := HC1.out; omega
  rcases hcase with h9 | h9 | h9 | h9 | h9 | h9 | h9 | h9 | h9 | h9 | h9 | h9 | h9 | h9 | h9 | h9 | h9 | h9
  · skip
    have l139 : decide (139 ≤ code) = false := decide_eq_false (by omega)
    have l91 : decide (91 ≤ code) = true := decide_eq_true (by omega)
    have l168 : decide (168 ≤ code) = false := decide_eq_false (by omega)
    have l174 : decide (174 ≤ code) = false := decide_eq_false (by omega)
    have u166 : decide (code ≤ 166) = true := decide_eq_true (by omega)
    have u102 : decide (code ≤ 102) = true := decide_eq_true (by omega)
    have u171 : decide (code ≤ 171) = true := decide_eq_true (by omega)
    have u191 : decide (code ≤ 191) = true := decide_eq_true (by omega)
    have e67 : (code == 67) = false := beq_eq_false_iff_ne.2 (by omega)
    have e68 : (code == 68) = false := beq_eq_false_iff_ne.2 (by omega)
    have e17 : (code == 17) = false := beq_eq_false_iff_ne.2 (by omega)
    have e42 : (code == 42) = false := beq_eq_false_iff_ne.2 (by omega)
    have e43 : (code == 43) = false := beq_eq_false_iff_ne.2 (by omega)
    have e56 : (code == 56) = false := beq_eq_false_iff_ne.2 (by omega)
    have e57 : (code == 57) = false := beq_eq_false_iff_ne.2 (by omega)
    have v2 : decide (code < 2) = false := decide_eq_false (by omega)
    have v4 : decide (4 < code) = true := decide_eq_true (by omega)
    have hF := HF1.out (by unfold floatC; simp only [Bool.or_eq_true, Bool.and_eq_true, decide_eq_true_eq, beq_iff_eq]; omega)
    have g1 : (F == 3) = true := by rw [hF]; rfl
    have g2 : (F != 3) = false := by rw [hF]; rfl
    clear hF h9
    have y0 : W8.cell? ⟨w4.heap.size, 0, none⟩ = some (.int .i64 op) := cell_of_row W8 _ 0 _ _ _ HY8.out
    have y1 : W8.cell? ⟨w4.heap.size, 1, none⟩ = some (.int .i64 a) := cell_of_row W8 _ 1 _ _ _ HY8.out
    have y2 : W8.cell? ⟨w4.heap.size, 2, none⟩ = some (.int .i64 b) := cell_of_row W8 _ 2 _ _ _ HY8.out
    have y3 : W8.cell? ⟨w4.heap.size, 3, none⟩ = some (.slice ya4 zs.length yc4) := cell_of_row W8 _ 3 _ _ _ HY8.out
    go_wp2_with fail
    refine (K5.out W8 _ C8.out (ints_own O8.out HZL.out)).mono ?_
    rintro en w9 ⟨rfl, c9⟩
    have C9 := Lib.hid (C8.out.trans (c9.mono C8.out.size))
    have x0 := cell_later c9 (cell_of_row W8 _ 0 _ _ _ HI8.out)
    replace y0 := cell_later c9 y0
    have x1 := cell_later c9 (cell_of_row W8 _ 1 _ _ _ HI8.out)
    replace y1 := cell_later c9 y1
    have x2 := cell_later c9 (cell_of_row W8 _ 2 _ _ _ HI8.out)
    replace y2 := cell_later c9 y2
    clear c9 y3 l139 l91 l168 l174 u166 u102 u171 u191 e67 e68 e17 e42 e43 e56 e57 v2 v4 g1 g2
    go_wp2_with fail
    go_ret
    exact ⟨rfl, C9.out⟩
  · skip
    have l139 : decide (139 ≤ code) = true := decide_eq_true (by omega)
    have l91 : decide (91 ≤ code) = true := decide_eq_true (by omega)
    have l168 : decide (168 ≤ code) = false := decide_eq_false (by omega)
    have l174 : decide (174 ≤ code) = false := decide_eq_false (by omega)
    have u166 : decide (code ≤ 166) = true := decide_eq_true (by omega)
    have u102 : decide (code ≤ 102) = false := decide_eq_false (by omega)
    have u171 : decide (code ≤ 171) = true := decide_eq_true (by omega)
    have u191 : decide (code ≤ 191) = true := decide_eq_true (by omega)
    have e67 : (code == 67) = false := beq_eq_false_iff_ne.2 (by omega)
    have e68 : (code == 68) = false := beq_eq_false_iff_ne.2 (by omega)
    have e17 : (code == 17) = false := beq_eq_false_iff_ne.2 (by omega)
    have e42 : (code == 42) = false := beq_eq_false_iff_ne.2 (by omega)
    have e43 : (code == 43) = false := beq_eq_false_iff_ne.2 (by omega)
    have e56 : (code == 56) = false := beq_eq_false_iff_ne.2 (by omega)
    have e57 : (code == 57) = false := beq_eq_false_iff_ne.2 (by omega)
    have v2 : decide (code < 2) = false := decide_eq_false (by omega)
    have v4 : decide (4 < code) = true := decide_eq_true (by omega)
    have hF := HF1.out (by unfold floatC; simp only [Bool.or_eq_true, Bool.and_eq_true, decide_eq_true_eq, beq_iff_eq]; omega)
    have g1 : (F == 3) = true := by rw [hF]; rfl
    have g2 : (F != 3) = false := by rw [hF]; rfl
    clear hF h9
    have y0 : W8.cell? ⟨w4.heap.size, 0, none⟩ = some (.int .i64 op) := cell_of_row W8 _ 0 _ _ _ HY8.out
    have y1 : W8.cell? ⟨w4.heap.size, 1, none⟩ = some (.int .i64 a) := cell_of_row W8 _ 1 _ _ _ HY8.out
    have y2 : W8.cell? ⟨w4.heap.size, 2, none⟩ = some (.int .i64 b) := cell_of_row W8 _ 2 _ _ _ HY8.out
    have y3 : W8.cell? ⟨w4.heap.size, 3, none⟩ = some (.slice ya4 zs.length yc4) := cell_of_row W8 _ 3 _ _ _ HY8.out
    go_wp2_with fail
    refine (K5.out W8 _ C8.out (ints_own O8.out HZL.out)).mono ?_
    rintro en w9 ⟨rfl, c9⟩
    have C9 := Lib.hid (C8.out.trans (c9.mono C8.out.size))
    have x0 := cell_later c9 (cell_of_row W8 _ 0 _ _ _ HI8.out)
    replace y0 := cell_later c9 y0
    have x1 := cell_later c9 (cell_of_row W8 _ 1 _ _ _ HI8.out)
    replace y1 := cell_later c9 y1
    have x2 := cell_later c9 (cell_of_row W8 _ 2 _ _ _ HI8.out)
    replace y2 := cell_later c9 y2
    clear c9 y3 l139 l91 l168 l174 u166 u102 u171 u191 e67 e68 e17 e42 e43 e56 e57 v2 v4 g1 g2
    go_wp2_with fail
    go_ret
    exact ⟨rfl, C9.out⟩
  · skip
    have l139 : decide (139 ≤ code) = true := decide_eq_true (by omega)
    have l91 : decide (91 ≤ code) = true := decide_eq_true (by omega)
    have l168 : decide (168 ≤ code) = true := decide_eq_true (by omega)
    have l174 : decide (174 ≤ code) = false := decide_eq_false (by omega)
    have u166 : decide (code ≤ 166) = false := decide_eq_false (by omega)
    have u102 : decide (code ≤ 102) = false := decide_eq_false (by omega)
    have u171 : decide (code ≤ 171) = true := decide_eq_true (by omega)
    have u191 : decide (code ≤ 191) = true := decide_eq_true (by omega)
    have e67 : (code == 67) = false := beq_eq_false_iff_ne.2 (by omega)
    have e68 : (code == 68) = false := beq_eq_false_iff_ne.2 (by omega)
    have e17 : (code == 17) = false := beq_eq_false_iff_ne.2 (by omega)
    have e42 : (code == 42) = false := beq_eq_false_iff_ne.2 (by omega)
    have e43 : (code == 43) = false := beq_eq_false_iff_ne.2 (by omega)
    have e56 : (code == 56) = false := beq_eq_false_iff_ne.2 (by omega)
    have e57 : (code == 57) = false := beq_eq_false_iff_ne.2 (by omega)
    have v2 : decide (code < 2) = false := decide_eq_false (by omega)
    have v4 : decide (4 < code) = true := decide_eq_true (by omega)
    have hF := HF1.out (by unfold floatC; simp only [Bool.or_eq_true, Bool.and_eq_true, decide_eq_true_eq, beq_iff_eq]; omega)
    have g1 : (F == 3) = true := by rw [hF]; rfl
    have g2 : (F != 3) = false := by rw [hF]; rfl
    clear hF h9
    have y0 : W8.cell? ⟨w4.heap.size, 0, none⟩ = some (.int .i64 op) := cell_of_row W8 _ 0 _ _ _ HY8.out
    have y1 : W8.cell? ⟨w4.heap.size, 1, none⟩ = some (.int .i64 a) := cell_of_row W8 _ 1 _ _ _ HY8.out
    have y2 : W8.cell? ⟨w4.heap.size, 2, none⟩ = some (.int .i64 b) := cell_of_row W8 _ 2 _ _ _ HY8.out
    have y3 : W8.cell? ⟨w4.heap.size, 3, none⟩ = some (.slice ya4 zs.length yc4) := cell_of_row W8 _ 3 _ _ _ HY8.out
    go_wp2_with fail
    refine (K5.out W8 _ C8.out (ints_own O8.out HZL.out)).mono ?_
    rintro en w9 ⟨rfl, c9⟩
    have C9 := Lib.hid (C8.out.trans (c9.mono C8.out.size))
    have x0 := cell_later c9 (cell_of_row W8 _ 0 _ _ _ HI8.out)
    replace y0 := cell_later c9 y0
    have x1 := cell_later c9 (cell_of_row W8 _ 1 _ _ _ HI8.out)
    replace y1 := cell_later c9 y1
    have x2 := cell_later c9 (cell_of_row W8 _ 2 _ _ _ HI8.out)
    replace y2 := cell_later c9 y2
    clear c9 y3 l139 l91 l168 l174 u166 u102 u171 u191 e67 e68 e17 e42 e43 e56 e57 v2 v4 g1 g2
    go_wp2_with fail
    go_ret
    exact ⟨rfl, C9.out⟩
  · skip
    have l139 : decide (139 ≤ code) = true := decide_eq_true (by omega)
    have l91 : decide (91 ≤ code) = true := decide_eq_true (by omega)
    have l168 : decide (168 ≤ code) = true := decide_eq_true (by omega)
    have l174 : decide (174 ≤ code) = true := decide_eq_true (by omega)
    have u166 : decide (code ≤ 166) = false := decide_eq_false (by omega)
    have u102 : decide (code ≤ 102) = false := decide_eq_false (by omega)
    have u171 : decide (code ≤ 171) = false := decide_eq_false (by omega)
    have u191 : decide (code ≤ 191) = true := decide_eq_true (by omega)
    have e67 : (code == 67) = false := beq_eq_false_iff_ne.2 (by omega)
    have e68 : (code == 68) = false := beq_eq_false_iff_ne.2 (by omega)
    have e17 : (code == 17) = false := beq_eq_false_iff_ne.2 (by omega)
    have e42 : (code == 42) = false := beq_eq_false_iff_ne.2 (by omega)
    have e43 : (code == 43) = false := beq_eq_false_iff_ne.2 (by omega)
    have e56 : (code == 56) = false := beq_eq_false_iff_ne.2 (by omega)
    have e57 : (code == 57) = false := beq_eq_false_iff_ne.2 (by omega)
    have v2 : decide (code < 2) = false := decide_eq_false (by omega)
    have v4 : decide (4 < code) = true := decide_eq_true (by omega)
    have hF := HF1.out (by unfold floatC; simp only [Bool.or_eq_true, Bool.and_eq_true, decide_eq_true_eq, beq_iff_eq]; omega)
    have g1 : (F == 3) = true := by rw [hF]; rfl
    have g2 : (F != 3) = false := by rw [hF]; rfl
    clear hF h9
    have y0 : W8.cell? ⟨w4.heap.size, 0, none⟩ = some (.int .i64 op) := cell_of_row W8 _ 0 _ _ _ HY8.out
    have y1 : W8.cell? ⟨w4.heap.size, 1, none⟩ = some (.int .i64 a) := cell_of_row W8 _ 1 _ _ _ HY8.out
    have y2 : W8.cell? ⟨w4.heap.size, 2, none⟩ = some (.int .i64 b) := cell_of_row W8 _ 2 _ _ _ HY8.out
    have y3 : W8.cell? ⟨w4.heap.size, 3, none⟩ = some (.slice ya4 zs.length yc4) := cell_of_row W8 _ 3 _ _ _ HY8.out
    go_wp2_with fail
    refine (K5.out W8 _ C8.out (ints_own O8.out HZL.out)).mono ?_
    rintro en w9 ⟨rfl, c9⟩
    have C9 := Lib.hid (C8.out.trans (c9.mono C8.out.size))
    have x0 := cell_later c9 (cell_of_row W8 _ 0 _ _ _ HI8.out)
    replace y0 := cell_later c9 y0
    have x1 := cell_later c9 (cell_of_row W8 _ 1 _ _ _ HI8.out)
    replace y1 := cell_later c9 y1
    have x2 := cell_later c9 (cell_of_row W8 _ 2 _ _ _ HI8.out)
    replace y2 := cell_later c9 y2
    clear c9 y3 l139 l91 l168 l174 u166 u102 u171 u191 e67 e68 e17 e42 e43 e56 e57 v2 v4 g1 g2
    go_wp2_with fail
    go_ret
    exact ⟨rfl, C9.out⟩
  · skip
    have l139 : decide (139 ≤ code) = false := decide_eq_false (by omega)
    have l91 : decide (91 ≤ code) = false := decide_eq_false (by omega)
    have l168 : decide (168 ≤ code) = false := decide_eq_false (by omega)
    have l174 : decide (174 ≤ code) = false := decide_eq_false (by omega)
    have u166 : decide (code ≤ 166) = true := decide_eq_true (by omega)
    have u102 : decide (code ≤ 102) = true := decide_eq_true (by omega)
    have u171 : decide (code ≤ 171) = true := decide_eq_true (by omega)
    have u191 : decide (code ≤ 191) = true := decide_eq_true (by omega)
    have e67 : (code == 67) = true := beq_iff_eq.2 (by omega)
    have e68 : (code == 68) = false := beq_eq_false_iff_ne.2 (by omega)
    have e17 : (code == 17) = false := beq_eq_false_iff_ne.2 (by omega)
    have e42 : (code == 42) = false := beq_eq_false_iff_ne.2 (by omega)
    have e43 : (code == 43) = false := beq_eq_false_iff_ne.2 (by omega)
    have e56 : (code == 56) = false := beq_eq_false_iff_ne.2 (by omega)
    have e57 : (code == 57) = false := beq_eq_false_iff_ne.2 (by omega)
    have v2 : decide (code < 2) = false := decide_eq_false (by omega)
    have v4 : decide (4 < code) = true := decide_eq_true (by omega)
    have hF := HF1.out (by unfold floatC; simp only [Bool.or_eq_true, Bool.and_eq_true, decide_eq_true_eq, beq_iff_eq]; omega)
    have g1 : (F == 3) = true := by rw [hF]; rfl
    have g2 : (F != 3) = false := by rw [hF]; rfl
    clear hF h9
    have y0 : W8.cell? ⟨w4.heap.size, 0, none⟩ = some (.int .i64 op) := cell_of_row W8 _ 0 _ _ _ HY8.out
    have y1 : W8.cell? ⟨w4.heap.size, 1, none⟩ = some (.int .i64 a) := cell_of_row W8 _ 1 _ _ _ HY8.out
    have y2 : W8.cell? ⟨w4.heap.size, 2, none⟩ = some (.int .i64 b) := cell_of_row W8 _ 2 _ _ _ HY8.out
    have y3 : W8.cell? ⟨w4.heap.size, 3, none⟩ = some (.slice ya4 zs.length yc4) := cell_of_row W8 _ 3 _ _ _ HY8.out
    go_wp2_with fail
    refine (K5.out W8 _ C8.out (ints_own O8.out HZL.out)).mono ?_
    rintro en w9 ⟨rfl, c9⟩
    have C9 := Lib.hid (C8.out.trans (c9.mono C8.out.size))
    have x0 := cell_later c9 (cell_of_row W8 _ 0 _ _ _ HI8.out)
    replace y0 := cell_later c9 y0
    have x1 := cell_later c9 (cell_of_row W8 _ 1 _ _ _ HI8.out)
    replace y1 := cell_later c9 y1
    have x2 := cell_later c9 (cell_of_row W8 _ 2 _ _ _ HI8.out)
    replace y2 := cell_later c9 y2
    clear c9 y3 l139 l91 l168 l174 u166 u102 u171 u191 e67 e68 e17 e42 e43 e56 e57 v2 v4 g1 g2
    go_wp2_with fail
    go_ret
    exact ⟨rfl, C9.out⟩
  · skip
    have l139 : decide (139 ≤ code) = false := decide_eq_false (by omega)
    have l91 : decide (91 ≤ code) = false := decide_eq_false (by omega)
    have l168 : decide (168 ≤ code) = false := decide_eq_false (by omega)
    have l174 : decide (174 ≤ code) = false := decide_eq_false (by omega)
    have u166 : decide (code ≤ 166) = true := decide_eq_true (by omega)
    have u102 : decide (code ≤ 102) = true := decide_eq_true (by omega)
    have u171 : decide (code ≤ 171) = true := decide_eq_true (by omega)
    have u191 : decide (code ≤ 191) = true := decide_eq_true (by omega)
    have e67 : (code == 67) = false := beq_eq_false_iff_ne.2 (by omega)
    have e68 : (code == 68) = true := beq_iff_eq.2 (by omega)
    have e17 : (code == 17) = false := beq_eq_false_iff_ne.2 (by omega)
    have e42 : (code == 42) = false := beq_eq_false_iff_ne.2 (by omega)
    have e43 : (code == 43) = false := beq_eq_false_iff_ne.2 (by omega)
    have e56 : (code == 56) = false := beq_eq_false_iff_ne.2 (by omega)
    have e57 : (code == 57) = false := beq_eq_false_iff_ne.2 (by omega)
    have v2 : decide (code < 2) = false := decide_eq_false (by omega)
    have v4 : decide (4 < code) = true := decide_eq_true (by omega)
    have hF := HF1.out (by unfold floatC; simp only [Bool.or_eq_true, Bool.and_eq_true, decide_eq_true_eq, beq_iff_eq]; omega)
    have g1 : (F == 3) = true := by rw [hF]; rfl
    have g2 : (F != 3) = false := by rw [hF]; rfl
    clear hF h9
    have y0 : W8.cell? ⟨w4.heap.size, 0, none⟩ = some (.int .i64 op) := cell_of_row W8 _ 0 _ _ _ HY8.out
    have y1 : W8.cell? ⟨w4.heap.size, 1, none⟩ = some (.int .i64 a) := cell_of_row W8 _ 1 _ _ _ HY8.out
    have y2 : W8.cell? ⟨w4.heap.size, 2, none⟩ = some (.int .i64 b) := cell_of_row W8 _ 2 _ _ _ HY8.out
    have y3 : W8.cell? ⟨w4.heap.size, 3, none⟩ = some (.slice ya4 zs.length yc4) := cell_of_row W8 _ 3 _ _ _ HY8.out
    go_wp2_with fail
    refine (K5.out W8 _ C8.out (ints_own O8.out HZL.out)).mono ?_
    rintro en w9 ⟨rfl, c9⟩
    have C9 := Lib.hid (C8.out.trans (c9.mono C8.out.size))
    have x0 := cell_later c9 (cell_of_row W8 _ 0 _ _ _ HI8.out)
    replace y0 := cell_later c9 y0
    have x1 := cell_later c9 (cell_of_row W8 _ 1 _ _ _ HI8.out)
    replace y1 := cell_later c9 y1
    have x2 := cell_later c9 (cell_of_row W8 _ 2 _ _ _ HI8.out)
    replace y2 := cell_later c9 y2
    clear c9 y3 l139 l91 l168 l174 u166 u102 u171 u191 e67 e68 e17 e42 e43 e56 e57 v2 v4 g1 g2
    go_wp2_with fail
    go_ret
    exact ⟨rfl, C9.out⟩
  · skip
    have l139 : decide (139 ≤ code) = false := decide_eq_false (by omega)
    have l91 : decide (91 ≤ code) = false := decide_eq_false (by omega)
    have l168 : decide (168 ≤ code) = false := decide_eq_false (by omega)
    have l174 : decide (174 ≤ code) = false := decide_eq_false (by omega)
    have u166 : decide (code ≤ 166) = true := decide_eq_true (by omega)
    have u102 : decide (code ≤ 102) = true := decide_eq_true (by omega)
    have u171 : decide (code ≤ 171) = true := decide_eq_true (by omega)
    have u191 : decide (code ≤ 191) = true := decide_eq_true (by omega)
    have e67 : (code == 67) = false := beq_eq_false_iff_ne.2 (by omega)
    have e68 : (code == 68) = false := beq_eq_false_iff_ne.2 (by omega)
    have e17 : (code == 17) = true := beq_iff_eq.2 (by omega)
    have e42 : (code == 42) = false := beq_eq_false_iff_ne.2 (by omega)
    have e43 : (code == 43) = false := beq_eq_false_iff_ne.2 (by omega)
    have e56 : (code == 56) = false := beq_eq_false_iff_ne.2 (by omega)
    have e57 : (code == 57) = false := beq_eq_false_iff_ne.2 (by omega)
    have v2 : decide (code < 2) = false := decide_eq_false (by omega)
    have v4 : decide (4 < code) = true := decide_eq_true (by omega)
    have hF := HF1.out (by unfold floatC; simp only [Bool.or_eq_true, Bool.and_eq_true, decide_eq_true_eq, beq_iff_eq]; omega)
    have g1 : (F == 3) = true := by rw [hF]; rfl
    have g2 : (F != 3) = false := by rw [hF]; rfl
    clear hF h9
    have y0 : W8.cell? ⟨w4.heap.size, 0, none⟩ = some (.int .i64 op) := cell_of_row W8 _ 0 _ _ _ HY8.out
    have y1 : W8.cell? ⟨w4.heap.size, 1, none⟩ = some (.int .i64 a) := cell_of_row W8 _ 1 _ _ _ HY8.out
    have y2 : W8.cell? ⟨w4.heap.size, 2, none⟩ = some (.int .i64 b) := cell_of_row W8 _ 2 _ _ _ HY8.out
    have y3 : W8.cell? ⟨w4.heap.size, 3, none⟩ = some (.slice ya4 zs.length yc4) := cell_of_row W8 _ 3 _ _ _ HY8.out
    go_wp2_with fail
    refine (K5.out W8 _ C8.out (ints_own O8.out HZL.out)).mono ?_
    rintro en w9 ⟨rfl, c9⟩
    have C9 := Lib.hid (C8.out.trans (c9.mono C8.out.size))
    have x0 := cell_later c9 (cell_of_row W8 _ 0 _ _ _ HI8.out)
    replace y0 := cell_later c9 y0
    have x1 := cell_later c9 (cell_of_row W8 _ 1 _ _ _ HI8.out)
    replace y1 := cell_later c9 y1
    have x2 := cell_later c9 (cell_of_row W8 _ 2 _ _ _ HI8.out)
    replace y2 := cell_later c9 y2
    clear c9 y3 l139 l91 l168 l174 u166 u102 u171 u191 e67 e68 e17 e42 e43 e56 e57 v2 v4 g1 g2
    go_wp2_with fail
    go_ret
    exact ⟨rfl, C9.out⟩
  · skip
    have l139 : decide (139 ≤ code) = false := decide_eq_false (by omega)
    have l91 : decide (91 ≤ code) = false := decide_eq_false (by omega)
    have l168 : decide (168 ≤ code) = false := decide_eq_false (by omega)
    have l174 : decide (174 ≤ code) = false := decide_eq_false (by omega)
    have u166 : decide (code ≤ 166) = true := decide_eq_true (by omega)
    have u102 : decide (code ≤ 102) = true := decide_eq_true (by omega)
    have u171 : decide (code ≤ 171) = true := decide_eq_true (by omega)
    have u191 : decide (code ≤ 191) = true := decide_eq_true (by omega)
    have e67 : (code == 67) = false := beq_eq_false_iff_ne.2 (by omega)
    have e68 : (code == 68) = false := beq_eq_false_iff_ne.2 (by omega)
    have e17 : (code == 17) = false := beq_eq_false_iff_ne.2 (by omega)
    have e42 : (code == 42) = true := beq_iff_eq.2 (by omega)
    have e43 : (code == 43) = false := beq_eq_false_iff_ne.2 (by omega)
    have e56 : (code == 56) = false := beq_eq_false_iff_ne.2 (by omega)
    have e57 : (code == 57) = false := beq_eq_false_iff_ne.2 (by omega)
    have v2 : decide (code < 2) = false := decide_eq_false (by omega)
    have v4 : decide (4 < code) = true := decide_eq_true (by omega)
    have hF := HF1.out (by unfold floatC; simp only [Bool.or_eq_true, Bool.and_eq_true, decide_eq_true_eq, beq_iff_eq]; omega)
    have g1 : (F == 3) = true := by rw [hF]; rfl
    have g2 : (F != 3) = false := by rw [hF]; rfl
    clear hF h9
    have y0 : W8.cell? ⟨w4.heap.size, 0, none⟩ = some (.int .i64 op) := cell_of_row W8 _ 0 _ _ _ HY8.out
    have y1 : W8.cell? ⟨w4.heap.size, 1, none⟩ = some (.int .i64 a) := cell_of_row W8 _ 1 _ _ _ HY8.out
    have y2 : W8.cell? ⟨w4.heap.size, 2, none⟩ = some (.int .i64 b) := cell_of_row W8 _ 2 _ _ _ HY8.out
    have y3 : W8.cell? ⟨w4.heap.size, 3, none⟩ = some (.slice ya4 zs.length yc4) := cell_of_row W8 _ 3 _ _ _ HY8.out
    go_wp2_with fail
    refine (K5.out W8 _ C8.out (ints_own O8.out HZL.out)).mono ?_
    rintro en w9 ⟨rfl, c9⟩
    have C9 := Lib.hid (C8.out.trans (c9.mono C8.out.size))
    have x0 := cell_later c9 (cell_of_row W8 _ 0 _ _ _ HI8.out)
    replace y0 := cell_later c9 y0
    have x1 := cell_later c9 (cell_of_row W8 _ 1 _ _ _ HI8.out)
    replace y1 := cell_later c9 y1
    have x2 := cell_later c9 (cell_of_row W8 _ 2 _ _ _ HI8.out)
    replace y2 := cell_later c9 y2
    clear c9 y3 l139 l91 l168 l174 u166 u102 u171 u191 e67 e68 e17 e42 e43 e56 e57 v2 v4 g1 g2
    go_wp2_with fail
    go_ret
    exact ⟨rfl, C9.out⟩
  · skip
    have l139 : decide (139 ≤ code) = false := decide_eq_false (by omega)
    have l91 : decide (91 ≤ code) = false := decide_eq_false (by omega)
    have l168 : decide (168 ≤ code) = false := decide_eq_false (by omega)
    have l174 : decide (174 ≤ code) = false := decide_eq_false (by omega)
    have u166 : decide (code ≤ 166) = true := decide_eq_true (by omega)
    have u102 : decide (code ≤ 102) = true := decide_eq_true (by omega)
    have u171 : decide (code ≤ 171) = true := decide_eq_true (by omega)
    have u191 : decide (code ≤ 191) = true := decide_eq_true (by omega)
    have e67 : (code == 67) = false := beq_eq_false_iff_ne.2 (by omega)
    have e68 : (code == 68) = false := beq_eq_false_iff_ne.2 (by omega)
    have e17 : (code == 17) = false := beq_eq_false_iff_ne.2 (by omega)
    have e42 : (code == 42) = false := beq_eq_false_iff_ne.2 (by omega)
    have e43 : (code == 43) = true := beq_iff_eq.2 (by omega)
    have e56 : (code == 56) = false := beq_eq_false_iff_ne.2 (by omega)
    have e57 : (code == 57) = false := beq_eq_false_iff_ne.2 (by omega)
    have v2 : decide (code < 2) = false := decide_eq_false (by omega)
    have v4 : decide (4 < code) = true := decide_eq_true (by omega)
    have hF := HF1.out (by unfold floatC; simp only [Bool.or_eq_true, Bool.and_eq_true, decide_eq_true_eq, beq_iff_eq]; omega)
    have g1 : (F == 3) = true := by rw [hF]; rfl
    have g2 : (F != 3) = false := by rw [hF]; rfl
    clear hF h9
    have y0 : W8.cell? ⟨w4.heap.size, 0, none⟩ = some (.int .i64 op) := cell_of_row W8 _ 0 _ _ _ HY8.out
    have y1 : W8.cell? ⟨w4.heap.size, 1, none⟩ = some (.int .i64 a) := cell_of_row W8 _ 1 _ _ _ HY8.out
    have y2 : W8.cell? ⟨w4.heap.size, 2, none⟩ = some (.int .i64 b) := cell_of_row W8 _ 2 _ _ _ HY8.out
    have y3 : W8.cell? ⟨w4.heap.size, 3, none⟩ = some (.slice ya4 zs.length yc4) := cell_of_row W8 _ 3 _ _ _ HY8.out
    go_wp2_with fail
    refine (K5.out W8 _ C8.out (ints_own O8.out HZL.out)).mono ?_
    rintro en w9 ⟨rfl, c9⟩
    have C9 := Lib.hid (C8.out.trans (c9.mono C8.out.size))
    have x0 := cell_later c9 (cell_of_row W8 _ 0 _ _ _ HI8.out)
    replace y0 := cell_later c9 y0
    have x1 := cell_later c9 (cell_of_row W8 _ 1 _ _ _ HI8.out)
    replace y1 := cell_later c9 y1
    have x2 := cell_later c9 (cell_of_row W8 _ 2 _ _ _ HI8.out)
    replace y2 := cell_later c9 y2
    clear c9 y3 l139 l91 l168 l174 u166 u102 u171 u191 e67 e68 e17 e42 e43 e56 e57 v2 v4 g1 g2
    go_wp2_with fail
    go_ret
    exact ⟨rfl, C9.out⟩
  · skip
    have l139 : decide (139 ≤ code) = false := decide_eq_false (by omega)
    have l91 : decide (91 ≤ code) = false := decide_eq_false (by omega)
    have l168 : decide (168 ≤ code) = false := decide_eq_false (by omega)
    have l174 : decide (174 ≤ code) = false := decide_eq_false (by omega)
    have u166 : decide (code ≤ 166) = true := decide_eq_true (by omega)
    have u102 : decide (code ≤ 102) = true := decide_eq_true (by omega)
    have u171 : decide (code ≤ 171) = true := decide_eq_true (by omega)
    have u191 : decide (code ≤ 191) = true := decide_eq_true (by omega)
    have e67 : (code == 67) = false := beq_eq_false_iff_ne.2 (by omega)
    have e68 : (code == 68) = false := beq_eq_false_iff_ne.2 (by omega)
    have e17 : (code == 17) = false := beq_eq_false_iff_ne.2 (by omega)
    have e42 : (code == 42) = false := beq_eq_false_iff_ne.2 (by omega)
    have e43 : (code == 43) = false := beq_eq_false_iff_ne.2 (by omega)
    have e56 : (code == 56) = true := beq_iff_eq.2 (by omega)
    have e57 : (code == 57) = false := beq_eq_false_iff_ne.2 (by omega)
    have v2 : decide (code < 2) = false := decide_eq_false (by omega)
    have v4 : decide (4 < code) = true := decide_eq_true (by omega)
    have hF := HF1.out (by unfold floatC; simp only [Bool.or_eq_true, Bool.and_eq_true, decide_eq_true_eq, beq_iff_eq]; omega)
    have g1 : (F == 3) = true := by rw [hF]; rfl
    have g2 : (F != 3) = false := by rw [hF]; rfl
    clear hF h9
    have y0 : W8.cell? ⟨w4.heap.size, 0, none⟩ = some (.int .i64 op) := cell_of_row W8 _ 0 _ _ _ HY8.out
    have y1 : W8.cell? ⟨w4.heap.size, 1, none⟩ = some (.int .i64 a) := cell_of_row W8 _ 1 _ _ _ HY8.out
    have y2 : W8.cell? ⟨w4.heap.size, 2, none⟩ = some (.int .i64 b) := cell_of_row W8 _ 2 _ _ _ HY8.out
    have y3 : W8.cell? ⟨w4.heap.size, 3, none⟩ = some (.slice ya4 zs.length yc4) := cell_of_row W8 _ 3 _ _ _ HY8.out
    go_wp2_with fail
    refine (K5.out W8 _ C8.out (ints_own O8.out HZL.out)).mono ?_
    rintro en w9 ⟨rfl, c9⟩
    have C9 := Lib.hid (C8.out.trans (c9.mono C8.out.size))
    have x0 := cell_later c9 (cell_of_row W8 _ 0 _ _ _ HI8.out)
    replace y0 := cell_later c9 y0
    have x1 := cell_later c9 (cell_of_row W8 _ 1 _ _ _ HI8.out)
    replace y1 := cell_later c9 y1
    have x2 := cell_later c9 (cell_of_row W8 _ 2 _ _ _ HI8.out)
    replace y2 := cell_later c9 y2
    clear c9 y3 l139 l91 l168 l174 u166 u102 u171 u191 e67 e68 e17 e42 e43 e56 e57 v2 v4 g1 g2
    go_wp2_with fail
    go_ret
    exact ⟨rfl, C9.out⟩
  · skip
    have l139 : decide (139 ≤ code) = false := decide_eq_false (by omega)
    have l91 : decide (91 ≤ code) = false := decide_eq_false (by omega)
    have l168 : decide (168 ≤ code) = false := decide_eq_false (by omega)
    have l174 : decide (174 ≤ code) = false := decide_eq_false (by omega)
    have u166 : decide (code ≤ 166) = true := decide_eq_true (by omega)
    have u102 : decide (code ≤ 102) = true := decide_eq_true (by omega)
    have u171 : decide (code ≤ 171) = true := decide_eq_true (by omega)
    have u191 : decide (code ≤ 191) = true := decide_eq_true (by omega)
    have e67 : (code == 67) = false := beq_eq_false_iff_ne.2 (by omega)
    have e68 : (code == 68) = false := beq_eq_false_iff_ne.2 (by omega)
    have e17 : (code == 17) = false := beq_eq_false_iff_ne.2 (by omega)
    have e42 : (code == 42) = false := beq_eq_false_iff_ne.2 (by omega)
    have e43 : (code == 43) = false := beq_eq_false_iff_ne.2 (by omega)
    have e56 : (code == 56) = false := beq_eq_false_iff_ne.2 (by omega)
    have e57 : (code == 57) = true := beq_iff_eq.2 (by omega)
    have v2 : decide (code < 2) = false := decide_eq_false (by omega)
    have v4 : decide (4 < code) = true := decide_eq_true (by omega)
    have hF := HF1.out (by unfold floatC; simp only [Bool.or_eq_true, Bool.and_eq_true, decide_eq_true_eq, beq_iff_eq]; omega)
    have g1 : (F == 3) = true := by rw [hF]; rfl
    have g2 : (F != 3) = false := by rw [hF]; rfl
    clear hF h9
    have y0 : W8.cell? ⟨w4.heap.size, 0, none⟩ = some (.int .i64 op) := cell_of_row W8 _ 0 _ _ _ HY8.out
    have y1 : W8.cell? ⟨w4.heap.size, 1, none⟩ = some (.int .i64 a) := cell_of_row W8 _ 1 _ _ _ HY8.out
    have y2 : W8.cell? ⟨w4.heap.size, 2, none⟩ = some (.int .i64 b) := cell_of_row W8 _ 2 _ _ _ HY8.out
    have y3 : W8.cell? ⟨w4.heap.size, 3, none⟩ = some (.slice ya4 zs.length yc4) := cell_of_row W8 _ 3 _ _ _ HY8.out
    go_wp2_with fail
    refine (K5.out W8 _ C8.out (ints_own O8.out HZL.out)).mono ?_
    rintro en w9 ⟨rfl, c9⟩
    have C9 := Lib.hid (C8.out.trans (c9.mono C8.out.size))
    have x0 := cell_later c9 (cell_of_row W8 _ 0 _ _ _ HI8.out)
    replace y0 := cell_later c9 y0
    have x1 := cell_later c9 (cell_of_row W8 _ 1 _ _ _ HI8.out)
    replace y1 := cell_later c9 y1
    have x2 := cell_later c9 (cell_of_row W8 _ 2 _ _ _ HI8.out)
    replace y2 := cell_later c9 y2
    clear c9 y3 l139 l91 l168 l174 u166 u102 u171 u191 e67 e68 e17 e42 e43 e56 e57 v2 v4 g1 g2
    go_wp2_with fail
    go_ret
    exact ⟨rfl, C9.out⟩
  · skip
    have l139 : decide (139 ≤ code) = false := decide_eq_false (by omega)
    have l91 : decide (91 ≤ code) = false := decide_eq_false (by omega)
    have l168 : decide (168 ≤ code) = false := decide_eq_false (by omega)
    have l174 : decide (174 ≤ code) = false := decide_eq_false (by omega)
    have u166 : decide (code ≤ 166) = true := decide_eq_true (by omega)
    have u102 : decide (code ≤ 102) = true := decide_eq_true (by omega)
    have u171 : decide (code ≤ 171) = true := decide_eq_true (by omega)
    have u191 : decide (code ≤ 191) = true := decide_eq_true (by omega)
    have e67 : (code == 67) = false := beq_eq_false_iff_ne.2 (by omega)
    have e68 : (code == 68) = false := beq_eq_false_iff_ne.2 (by omega)
    have e17 : (code == 17) = false := beq_eq_false_iff_ne.2 (by omega)
    have e42 : (code == 42) = false := beq_eq_false_iff_ne.2 (by omega)
    have e43 : (code == 43) = false := beq_eq_false_iff_ne.2 (by omega)
    have e56 : (code == 56) = false := beq_eq_false_iff_ne.2 (by omega)
    have e57 : (code == 57) = false := beq_eq_false_iff_ne.2 (by omega)
    have v2 : decide (code < 2) = true := decide_eq_true (by omega)
    have v4 : decide (4 < code) = false := decide_eq_false (by omega)
    have hF := HF2.out (by rw [Bool.eq_false_iff]; intro h; unfold floatC at h; simp only [Bool.or_eq_true, Bool.and_eq_true, decide_eq_true_eq, beq_iff_eq] at h; omega) (by omega)
    have g1 : (F == 3) = false := beq_eq_false_iff_ne.2 hF
    have g2 : (F != 3) = true := bne_iff_ne.2 hF
    clear hF h9
    have y0 : W8.cell? ⟨w4.heap.size, 0, none⟩ = some (.int .i64 op) := cell_of_row W8 _ 0 _ _ _ HY8.out
    have y1 : W8.cell? ⟨w4.heap.size, 1, none⟩ = some (.int .i64 a) := cell_of_row W8 _ 1 _ _ _ HY8.out
    have y2 : W8.cell? ⟨w4.heap.size, 2, none⟩ = some (.int .i64 b) := cell_of_row W8 _ 2 _ _ _ HY8.out
    have y3 : W8.cell? ⟨w4.heap.size, 3, none⟩ = some (.slice ya4 zs.length yc4) := cell_of_row W8 _ 3 _ _ _ HY8.out
    go_wp2_with fail
    refine (K5.out W8 _ C8.out (ints_own O8.out HZL.out)).mono ?_
    rintro en w9 ⟨rfl, c9⟩
    have C9 := Lib.hid (C8.out.trans (c9.mono C8.out.size))
    have x0 := cell_later c9 (cell_of_row W8 _ 0 _ _ _ HI8.out)
    replace y0 := cell_later c9 y0
    have x1 := cell_later c9 (cell_of_row W8 _ 1 _ _ _ HI8.out)
    replace y1 := cell_later c9 y1
    have x2 := cell_later c9 (cell_of_row W8 _ 2 _ _ _ HI8.out)
    replace y2 := cell_later c9 y2
    clear c9 y3 l139 l91 l168 l174 u166 u102 u171 u191 e67 e68 e17 e42 e43 e56 e57 v2 v4 g1 g2
    go_wp2_with fail
    go_ret
    exact ⟨rfl, C9.out⟩
  · skip
    have l139 : decide (139 ≤ code) = false := decide_eq_false (by omega)
    have l91 : decide (91 ≤ code) = false := decide_eq_false (by omega)
    have l168 : decide (168 ≤ code) = false := decide_eq_false (by omega)
    have l174 : decide (174 ≤ code) = false := decide_eq_false (by omega)
    have u166 : decide (code ≤ 166) = true := decide_eq_true (by omega)
    have u102 : decide (code ≤ 102) = true := decide_eq_true (by omega)
    have u171 : decide (code ≤ 171) = true := decide_eq_true (by omega)
    have u191 : decide (code ≤ 191) = true := decide_eq_true (by omega)
    have e67 : (code == 67) = false := beq_eq_false_iff_ne.2 (by omega)
    have e68 : (code == 68) = false := beq_eq_false_iff_ne.2 (by omega)
    have e17 : (code == 17) = false := beq_eq_false_iff_ne.2 (by omega)
    have e42 : (code == 42) = false := beq_eq_false_iff_ne.2 (by omega)
    have e43 : (code == 43) = false := beq_eq_false_iff_ne.2 (by omega)
    have e56 : (code == 56) = false := beq_eq_false_iff_ne.2 (by omega)
    have e57 : (code == 57) = false := beq_eq_false_iff_ne.2 (by omega)
    have v2 : decide (code < 2) = false := decide_eq_false (by omega)
    have v4 : decide (4 < code) = false := decide_eq_false (by omega)
    clear h9
    have y0 : W8.cell? ⟨w4.heap.size, 0, none⟩ = some (.int .i64 op) := cell_of_row W8 _ 0 _ _ _ HY8.out
    have y1 : W8.cell? ⟨w4.heap.size, 1, none⟩ = some (.int .i64 a) := cell_of_row W8 _ 1 _ _ _ HY8.out
    have y2 : W8.cell? ⟨w4.heap.size, 2, none⟩ = some (.int .i64 b) := cell_of_row W8 _ 2 _ _ _ HY8.out
    have y3 : W8.cell? ⟨w4.heap.size, 3, none⟩ = some (.slice ya4 zs.length yc4) := cell_of_row W8 _ 3 _ _ _ HY8.out
    go_wp2_with fail
    refine (K5.out W8 _ C8.out (ints_own O8.out HZL.out)).mono ?_
    rintro en w9 ⟨rfl, c9⟩
    have C9 := Lib.hid (C8.out.trans (c9.mono C8.out.size))
    have x0 := cell_later c9 (cell_of_row W8 _ 0 _ _ _ HI8.out)
    replace y0 := cell_later c9 y0
    have x1 := cell_later c9 (cell_of_row W8 _ 1 _ _ _ HI8.out)
    replace y1 := cell_later c9 y1
    have x2 := cell_later c9 (cell_of_row W8 _ 2 _ _ _ HI8.out)
    replace y2 := cell_later c9 y2
    clear c9 y3 l139 l91 l168 l174 u166 u102 u171 u191 e67 e68 e17 e42 e43 e56 e57 v2 v4
    go_wp2_with fail
    go_ret
    exact ⟨rfl, C9.out⟩
  · skip
    have l139 : decide (139 ≤ code) = false := decide_eq_false (by omega)
    have l91 : decide (91 ≤ code) = false := decide_eq_false (by omega)
    have l168 : decide (168 ≤ code) = false := decide_eq_false (by omega)
    have l174 : decide (174 ≤ code) = false := decide_eq_false (by omega)
    have u166 : decide (code ≤ 166) = true := decide_eq_true (by omega)
    have u102 : decide (code ≤ 102) = true := decide_eq_true (by omega)
    have u171 : decide (code ≤ 171) = true := decide_eq_true (by omega)
    have u191 : decide (code ≤ 191) = true := decide_eq_true (by omega)
    have e67 : (code == 67) = false := beq_eq_false_iff_ne.2 (by omega)
    have e68 : (code == 68) = false := beq_eq_false_iff_ne.2 (by omega)
    have e17 : (code == 17) = false := beq_eq_false_iff_ne.2 (by omega)
    have e42 : (code == 42) = false := beq_eq_false_iff_ne.2 (by omega)
    have e43 : (code == 43) = false := beq_eq_false_iff_ne.2 (by omega)
    have e56 : (code == 56) = false := beq_eq_false_iff_ne.2 (by omega)
    have e57 : (code == 57) = false := beq_eq_false_iff_ne.2 (by omega)
    have v2 : decide (code < 2) = false := decide_eq_false (by omega)
    have v4 : decide (4 < code) = true := decide_eq_true (by omega)
    have hF := HF2.out (by rw [Bool.eq_false_iff]; intro h; unfold floatC at h; simp only [Bool.or_eq_true, Bool.and_eq_true, decide_eq_true_eq, beq_iff_eq] at h; omega) (by omega)
    have g1 : (F == 3) = false := beq_eq_false_iff_ne.2 hF
    have g2 : (F != 3) = true := bne_iff_ne.2 hF
    clear hF h9
    have y0 : W8.cell? ⟨w4.heap.size, 0, none⟩ = some (.int .i64 op) := cell_of_row W8 _ 0 _ _ _ HY8.out
    have y1 : W8.cell? ⟨w4.heap.size, 1, none⟩ = some (.int .i64 a) := cell_of_row W8 _ 1 _ _ _ HY8.out
    have y2 : W8.cell? ⟨w4.heap.size, 2, none⟩ = some (.int .i64 b) := cell_of_row W8 _ 2 _ _ _ HY8.out
    have y3 : W8.cell? ⟨w4.heap.size, 3, none⟩ = some (.slice ya4 zs.length yc4) := cell_of_row W8 _ 3 _ _ _ HY8.out
    go_wp2_with fail
    refine (K5.out W8 _ C8.out (ints_own O8.out HZL.out)).mono ?_
    rintro en w9 ⟨rfl, c9⟩
    have C9 := Lib.hid (C8.out.trans (c9.mono C8.out.size))
    have x0 := cell_later c9 (cell_of_row W8 _ 0 _ _ _ HI8.out)
    replace y0 := cell_later c9 y0
    have x1 := cell_later c9 (cell_of_row W8 _ 1 _ _ _ HI8.out)
    replace y1 := cell_later c9 y1
    have x2 := cell_later c9 (cell_of_row W8 _ 2 _ _ _ HI8.out)
    replace y2 := cell_later c9 y2
    clear c9 y3 l139 l91 l168 l174 u166 u102 u171 u191 e67 e68 e17 e42 e43 e56 e57 v2 v4 g1 g2
    go_wp2_with fail
    go_ret
    exact ⟨rfl, C9.out⟩
  · skip
    have l139 : decide (139 ≤ code) = false := decide_eq_false (by omega)
    have l91 : decide (91 ≤ code) = true := decide_eq_true (by omega)
    have l168 : decide (168 ≤ code) = false := decide_eq_false (by omega)
    have l174 : decide (174 ≤ code) = false := decide_eq_false (by omega)
    have u166 : decide (code ≤ 166) = true := decide_eq_true (by omega)
    have u102 : decide (code ≤ 102) = false := decide_eq_false (by omega)
    have u171 : decide (code ≤ 171) = true := decide_eq_true (by omega)
    have u191 : decide (code ≤ 191) = true := decide_eq_true (by omega)
    have e67 : (code == 67) = false := beq_eq_false_iff_ne.2 (by omega)
    have e68 : (code == 68) = false := beq_eq_false_iff_ne.2 (by omega)
    have e17 : (code == 17) = false := beq_eq_false_iff_ne.2 (by omega)
    have e42 : (code == 42) = false := beq_eq_false_iff_ne.2 (by omega)
    have e43 : (code == 43) = false := beq_eq_false_iff_ne.2 (by omega)
    have e56 : (code == 56) = false := beq_eq_false_iff_ne.2 (by omega)
    have e57 : (code == 57) = false := beq_eq_false_iff_ne.2 (by omega)
    have v2 : decide (code < 2) = false := decide_eq_false (by omega)
    have v4 : decide (4 < code) = true := decide_eq_true (by omega)
    have hF := HF2.out (by rw [Bool.eq_false_iff]; intro h; unfold floatC at h; simp only [Bool.or_eq_true, Bool.and_eq_true, decide_eq_true_eq, beq_iff_eq] at h; omega) (by omega)
    have g1 : (F == 3) = false := beq_eq_false_iff_ne.2 hF
    have g2 : (F != 3) = true := bne_iff_ne.2 hF
    clear hF h9
    have y0 : W8.cell? ⟨w4.heap.size, 0, none⟩ = some (.int .i64 op) := cell_of_row W8 _ 0 _ _ _ HY8.out
    have y1 : W8.cell? ⟨w4.heap.size, 1, none⟩ = some (.int .i64 a) := cell_of_row W8 _ 1 _ _ _ HY8.out
    have y2 : W8.cell? ⟨w4.heap.size, 2, none⟩ = some (.int .i64 b) := cell_of_row W8 _ 2 _ _ _ HY8.out
    have y3 : W8.cell? ⟨w4.heap.size, 3, none⟩ = some (.slice ya4 zs.length yc4) := cell_of_row W8 _ 3 _ _ _ HY8.out
    go_wp2_with fail
    refine (K5.out W8 _ C8.out (ints_own O8.out HZL.out)).mono ?_
    rintro en w9 ⟨rfl, c9⟩
    have C9 := Lib.hid (C8.out.trans (c9.mono C8.out.size))
    have x0 := cell_later c9 (cell_of_row W8 _ 0 _ _ _ HI8.out)
    replace y0 := cell_later c9 y0
    have x1 := cell_later c9 (cell_of_row W8 _ 1 _ _ _ HI8.out)
    replace y1 := cell_later c9 y1
    have x2 := cell_later c9 (cell_of_row W8 _ 2 _ _ _ HI8.out)
    replace y2 := cell_later c9 y2
    clear c9 y3 l139 l91 l168 l174 u166 u102 u171 u191 e67 e68 e17 e42 e43 e56 e57 v2 v4 g1 g2
    go_wp2_with fail
    go_ret
    exact ⟨rfl, C9.out⟩
  · skip
    have l139 : decide (139 ≤ code) = true := decide_eq_true (by omega)
    have l91 : decide (91 ≤ code) = true := decide_eq_true (by omega)
    have l168 : decide (168 ≤ code) = false := decide_eq_false (by omega)
    have l174 : decide (174 ≤ code) = false := decide_eq_false (by omega)
    have u166 : decide (code ≤ 166) = false := decide_eq_false (by omega)
    have u102 : decide (code ≤ 102) = false := decide_eq_false (by omega)
    have u171 : decide (code ≤ 171) = true := decide_eq_true (by omega)
    have u191 : decide (code ≤ 191) = true := decide_eq_true (by omega)
    have e67 : (code == 67) = false := beq_eq_false_iff_ne.2 (by omega)
    have e68 : (code == 68) = false := beq_eq_false_iff_ne.2 (by omega)
    have e17 : (code == 17) = false := beq_eq_false_iff_ne.2 (by omega)
    have e42 : (code == 42) = false := beq_eq_false_iff_ne.2 (by omega)
    have e43 : (code == 43) = false := beq_eq_false_iff_ne.2 (by omega)
    have e56 : (code == 56) = false := beq_eq_false_iff_ne.2 (by omega)
    have e57 : (code == 57) = false := beq_eq_false_iff_ne.2 (by omega)
    have v2 : decide (code < 2) = false := decide_eq_false (by omega)
    have v4 : decide (4 < code) = true := decide_eq_true (by omega)
    have hF := HF2.out (by rw [Bool.eq_false_iff]; intro h; unfold floatC at h; simp only [Bool.or_eq_true, Bool.and_eq_true, decide_eq_true_eq, beq_iff_eq] at h; omega) (by omega)
    have g1 : (F == 3) = false := beq_eq_false_iff_ne.2 hF
    have g2 : (F != 3) = true := bne_iff_ne.2 hF
    clear hF h9
    have y0 : W8.cell? ⟨w4.heap.size, 0, none⟩ = some (.int .i64 op) := cell_of_row W8 _ 0 _ _ _ HY8.out
    have y1 : W8.cell? ⟨w4.heap.size, 1, none⟩ = some (.int .i64 a) := cell_of_row W8 _ 1 _ _ _ HY8.out
    have y2 : W8.cell? ⟨w4.heap.size, 2, none⟩ = some (.int .i64 b) := cell_of_row W8 _ 2 _ _ _ HY8.out
    have y3 : W8.cell? ⟨w4.heap.size, 3, none⟩ = some (.slice ya4 zs.length yc4) := cell_of_row W8 _ 3 _ _ _ HY8.out
    go_wp2_with fail
    refine (K5.out W8 _ C8.out (ints_own O8.out HZL.out)).mono ?_
    rintro en w9 ⟨rfl, c9⟩
    have C9 := Lib.hid (C8.out.trans (c9.mono C8.out.size))
    have x0 := cell_later c9 (cell_of_row W8 _ 0 _ _ _ HI8.out)
    replace y0 := cell_later c9 y0
    have x1 := cell_later c9 (cell_of_row W8 _ 1 _ _ _ HI8.out)
    replace y1 := cell_later c9 y1
    have x2 := cell_later c9 (cell_of_row W8 _ 2 _ _ _ HI8.out)
    replace y2 := cell_later c9 y2
    clear c9 y3 l139 l91 l168 l174 u166 u102 u171 u191 e67 e68 e17 e42 e43 e56 e57 v2 v4 g1 g2
    go_wp2_with fail
    go_ret
    exact ⟨rfl, C9.out⟩
  · skip
    have l139 : decide (139 ≤ code) = true := decide_eq_true (by omega)
    have l91 : decide (91 ≤ code) = true := decide_eq_true (by omega)
    have l168 : decide (168 ≤ code) = true := decide_eq_true (by omega)
    have l174 : decide (174 ≤ code) = false := decide_eq_false (by omega)
    have u166 : decide (code ≤ 166) = false := decide_eq_false (by omega)
    have u102 : decide (code ≤ 102) = false := decide_eq_false (by omega)
    have u171 : decide (code ≤ 171) = false := decide_eq_false (by omega)
    have u191 : decide (code ≤ 191) = true := decide_eq_true (by omega)
    have e67 : (code == 67) = false := beq_eq_false_iff_ne.2 (by omega)
    have e68 : (code == 68) = false := beq_eq_false_iff_ne.2 (by omega)
    have e17 : (code == 17) = false := beq_eq_false_iff_ne.2 (by omega)
    have e42 : (code == 42) = false := beq_eq_false_iff_ne.2 (by omega)
    have e43 : (code == 43) = false := beq_eq_false_iff_ne.2 (by omega)
    have e56 : (code == 56) = false := beq_eq_false_iff_ne.2 (by omega)
    have e57 : (code == 57) = false := beq_eq_false_iff_ne.2 (by omega)
    have v2 : decide (code < 2) = false := decide_eq_false (by omega)
    have v4 : decide (4 < code) = true := decide_eq_true (by omega)
    have hF := HF2.out (by rw [Bool.eq_false_iff]; intro h; unfold floatC at h; simp only [Bool.or_eq_true, Bool.and_eq_true, decide_eq_true_eq, beq_iff_eq] at h; omega) (by omega)
    have g1 : (F == 3) = false := beq_eq_false_iff_ne.2 hF
    have g2 : (F != 3) = true := bne_iff_ne.2 hF
    clear hF h9
    have y0 : W8.cell? ⟨w4.heap.size, 0, none⟩ = some (.int .i64 op) := cell_of_row W8 _ 0 _ _ _ HY8.out
    have y1 : W8.cell? ⟨w4.heap.size, 1, none⟩ = some (.int .i64 a) := cell_of_row W8 _ 1 _ _ _ HY8.out
    have y2 : W8.cell? ⟨w4.heap.size, 2, none⟩ = some (.int .i64 b) := cell_of_row W8 _ 2 _ _ _ HY8.out
    have y3 : W8.cell? ⟨w4.heap.size, 3, none⟩ = some (.slice ya4 zs.length yc4) := cell_of_row W8 _ 3 _ _ _ HY8.out
    go_wp2_with fail
    refine (K5.out W8 _ C8.out (ints_own O8.out HZL.out)).mono ?_
    rintro en w9 ⟨rfl, c9⟩
    have C9 := Lib.hid (C8.out.trans (c9.mono C8.out.size))
    have x0 := cell_later c9 (cell_of_row W8 _ 0 _ _ _ HI8.out)
    replace y0 := cell_later c9 y0
    have x1 := cell_later c9 (cell_of_row W8 _ 1 _ _ _ HI8.out)
    replace y1 := cell_later c9 y1
    have x2 := cell_later c9 (cell_of_row W8 _ 2 _ _ _ HI8.out)
    replace y2 := cell_later c9 y2
    clear c9 y3 l139 l91 l168 l174 u166 u102 u171 u191 e67 e68 e17 e42 e43 e56 e57 v2 v4 g1 g2
    go_wp2_with fail
    go_ret
    exact ⟨rfl, C9.out⟩
  · skip
    have l139 : decide (139 ≤ code) = true := decide_eq_true (by omega)
    have l91 : decide (91 ≤ code) = true := decide_eq_true (by omega)
    have l168 : decide (168 ≤ code) = true := decide_eq_true (by omega)
    have l174 : decide (174 ≤ code) = true := decide_eq_true (by omega)
    have u166 : decide (code ≤ 166) = false := decide_eq_false (by omega)
    have u102 : decide (code ≤ 102) = false := decide_eq_false (by omega)
    have u171 : decide (code ≤ 171) = false := decide_eq_false (by omega)
    have u191 : decide (code ≤ 191) = false := decide_eq_false (by omega)
    have e67 : (code == 67) = false := beq_eq_false_iff_ne.2 (by omega)
    have e68 : (code == 68) = false := beq_eq_false_iff_ne.2 (by omega)
    have e17 : (code == 17) = false := beq_eq_false_iff_ne.2 (by omega)
    have e42 : (code == 42) = false := beq_eq_false_iff_ne.2 (by omega)
    have e43 : (code == 43) = false := beq_eq_false_iff_ne.2 (by omega)
    have e56 : (code == 56) = false := beq_eq_false_iff_ne.2 (by omega)
    have e57 : (code == 57) = false := beq_eq_false_iff_ne.2 (by omega)
    have v2 : decide (code < 2) = false := decide_eq_false (by omega)
    have v4 : decide (4 < code) = true := decide_eq_true (by omega)
    have hF := HF2.out (by rw [Bool.eq_false_iff]; intro h; unfold floatC at h; simp only [Bool.or_eq_true, Bool.and_eq_true, decide_eq_true_eq, beq_iff_eq] at h; omega) (by omega)
    have g1 : (F == 3) = false := beq_eq_false_iff_ne.2 hF
    have g2 : (F != 3) = true := bne_iff_ne.2 hF
    clear hF h9
    have y0 : W8.cell? ⟨w4.heap.size, 0, none⟩ = some (.int .i64 op) := cell_of_row W8 _ 0 _ _ _ HY8.out
    have y1 : W8.cell? ⟨w4.heap.size, 1, none⟩ = some (.int .i64 a) := cell_of_row W8 _ 1 _ _ _ HY8.out
    have y2 : W8.cell? ⟨w4.heap.size, 2, none⟩ = some (.int .i64 b) := cell_of_row W8 _ 2 _ _ _ HY8.out
    have y3 : W8.cell? ⟨w4.heap.size, 3, none⟩ = some (.slice ya4 zs.length yc4) := cell_of_row W8 _ 3 _ _ _ HY8.out
    go_wp2_with fail
    refine (K5.out W8 _ C8.out (ints_own O8.out HZL.out)).mono ?_
    rintro en w9 ⟨rfl, c9⟩
    have C9 := Lib.hid (C8.out.trans (c9.mono C8.out.size))
    have x0 := cell_later c9 (cell_of_row W8 _ 0 _ _ _ HI8.out)
    replace y0 := cell_later c9 y0
    have x1 := cell_later c9 (cell_of_row W8 _ 1 _ _ _ HI8.out)
    replace y1 := cell_later c9 y1
    have x2 := cell_later c9 (cell_of_row W8 _ 2 _ _ _ HI8.out)
    replace y2 := cell_later c9 y2
    clear c9 y3 l139 l91 l168 l174 u166 u102 u171 u191 e67 e68 e17 e42 e43 e56 e57 v2 v4 g1 g2
    go_wp2_with fail
    go_ret
    exact ⟨rfl, C9.out⟩
/-- THE LAW -/
theorem instr_law (lv : Value) (op a b code : Int) (zs : List Int) (more : ByteArray) (w : World) (hE : OpEnv w) (hl : IntsAt w lv zs) (ho : InsOk ⟨op, a, b, zs⟩) (hc0 : 0 ≤ code) (hc1 : code ≤ 255) (hm : more.size ≤ 140737488351232) :
    Calls Tryz.prog 6 #[.agg #[.int .i64 op, .int .i64 a, .int .i64 b, lv], .int .u8 code, .string more] w fun en w' => en = .returned (.bool true) ∧ Below w.heap.size w w' := by
  cases hr : rightIns ⟨op, a, b, zs⟩ with
  | false => exact law_no lv op a b code zs more w hE hl ho hc0 hc1 hm hr
  | true => exact law_yes lv op a b code zs more w hE hl ho hc0 hc1 hm hr
end Go.Proofs.YtmfdabkmijbffaaGreatDoor.Dec
