/-
  The law RunData. No condition beyond what each theorem names.
-/
import Derived.Test.YtmbgemcddjailaaGreatDoorRunDtA
namespace Go.Proofs.YtmbgemcddjailaaGreatDoor.Run
open Go.RowKit Go.Maps Go.Lib Go.Proofs.YtmbgemcddjailaaGreatDoor.Op Go.Proofs.YtmbgemcddjailaaGreatDoor.Mod Go.Proofs.YtmbgemcddjailaaGreatDoor.Pg Go.Proofs.YtmbgemcddjailaaGreatDoor.Vld
set_option linter.unusedVariables false
theorem le_yes {n k m : Nat} (h : n + k ≤ m) : (n : Int) + (k : Int) ≤ (m : Int) := by omega
theorem le_no {n k m : Nat} (h : ¬ n + k ≤ m) : ¬ (n : Int) + (k : Int) ≤ (m : Int) := by omega
theorem off_wrap (y : Nat) (hy : y < 4294967296) : offN (wrap32 (y : Int)) = y := by
  unfold offN
  by_cases h : y < 2147483648
  · have e : wrap32 (y : Int) = (y : Int) := by unfold wrap32; rw [Int.emod_eq_of_lt (by omega) (by omega)]; omega
    rw [e, Int.emod_eq_of_lt (by omega) (by omega)]
    exact Int.toNat_natCast y
  · have e : wrap32 (y : Int) = (y : Int) - 4294967296 := by
      unfold wrap32
      rw [show (y : Int) + 2147483648 = ((y : Int) - 2147483648) + 4294967296 by omega, Int.add_emod_right, Int.emod_eq_of_lt (by omega) (by omega)]
      omega
    rw [e, Int.sub_emod_right, Int.emod_eq_of_lt (by omega) (by omega)]
    exact Int.toNat_natCast y
theorem three_new (W : World) (o0 o1 o2 : Obj) : ∀ WF, (((W.alloc o0).alloc o1).alloc o2) = WF → WF.heap[W.heap.size]? = some o0 ∧ WF.heap[W.heap.size + 1]? = some o1 ∧ WF.heap[W.heap.size + 1 + 1]? = some o2 ∧ Below W.heap.size W WF := by
  rintro WF rfl
  have b : Below W.heap.size W (((W.alloc o0).alloc o1).alloc o2) := (((Below.refl _ _).alloc (Nat.le_refl _) o0).alloc (by simp) o1).alloc (by simp; omega) o2
  have key : ∀ (V : World) (n : Nat) (o : Obj), V.heap.size = n → (V.alloc o).heap[n]? = some o := fun V n o h => by subst h; exact heap_alloc_new V o
  have old : ∀ (V : World) (n : Nat) (o q : Obj), V.heap[n]? = some q → (V.alloc o).heap[n]? = some q := fun V n o q h => (Below.heap_alloc V o n (Array.getElem?_eq_some_iff.1 h).1).trans h
  exact ⟨old _ _ _ _ (old _ _ _ _ (key _ _ _ rfl)), old _ _ _ _ (key _ _ _ (by simp)), key _ _ _ (by simp), b⟩
set_option maxRecDepth 100000 in
set_option maxHeartbeats 4000000 in
theorem data_walk (A B : ByteArray) (x y : Nat) (hx : x < 65536) (hy : y < 4294967296) (hsA : A.size ≤ 9223372036854775807) (hsB : B.size ≤ 9223372036854775807) (w : World) (hE : MEnv w) : Calls Tryz.prog 4 #[.string A, .string B, .int .u16 (x : Int), .int .u32 (y : Int)] w fun e w' => e = .returned (.bool true) ∧ Below w.heap.size w w' := by
  have HE := Lib.hid hE
  obtain ⟨na, hna⟩ : ∃ n, (min (A.size : Int) 100).toNat = n := ⟨_, rfl⟩
  obtain ⟨nb, hnb⟩ : ∃ n, (min (B.size : Int) 100).toNat = n := ⟨_, rfl⟩
  obtain ⟨a, haa⟩ : ∃ a, A.extract 0 na = a := ⟨_, rfl⟩
  obtain ⟨b, hbb⟩ : ∃ b, B.extract 0 nb = b := ⟨_, rfl⟩
  obtain ⟨far, h32⟩ : ∃ far : Int, wrap32 (y : Int) = far := ⟨_, rfl⟩
  have hfar : -2147483648 ≤ far ∧ far < 2147483648 := by
    have h1 := Int.emod_nonneg ((y : Int) + 2147483648) (show (4294967296 : Int) ≠ 0 by omega)
    have h2 := Int.emod_lt_of_pos ((y : Int) + 2147483648) (show (0 : Int) < 4294967296 by omega)
    rw [← h32]
    unfold wrap32
    omega
  have h64 : wrap64 far = far := by unfold wrap64; rw [Int.emod_eq_of_lt (by omega) (by omega)]; omega
  have HY := Lib.hid (show offN far = y by rw [← h32]; exact off_wrap y hy)
  have HSA := Lib.hid (show a.size ≤ 100 by rw [← haa, ByteArray.size_extract]; omega)
  have HSB := Lib.hid (show b.size ≤ 100 by rw [← hbb, ByteArray.size_extract]; omega)
  have HFR := Lib.hid hfar
  have HX := Lib.hid hx
  have HYL := Lib.hid hy
  clear hE hfar
  go_enter Tryz.func4, Tryz.ntmps4
  go_wp2_with fail
  refine (examples09 _ HE.out).mono ?_
  rintro e w1 ⟨rfl, c1⟩
  have C1 := Lib.hid c1
  clear c1
  go_upto_region 8 with fail
  obtain ⟨V1, hV1⟩ : ∃ V, (((w1.alloc (.cells #[.int .i64 1, .int .i64 1] 55)).alloc (.cells #[.int .i64 (x : Int), .string a, .int .i64 far, .string b] 57)).alloc (.cells #[.slice none 0 0, .slice none 0 0, .slice (some ⟨w1.heap.size, 0, none⟩) 1 1, .slice none 0 0, .slice none 0 0, .int .i64 (-1), .slice (some ⟨w1.heap.size + 1, 0, none⟩) 2 2] 41)) = V := ⟨_, rfl⟩
  obtain ⟨z0, z1, z2, d1⟩ := three_new w1 _ _ _ V1 hV1
  rw [hV1]
  have D1 := Lib.hid (C1.out.trans (d1.mono C1.out.size))
  obtain ⟨bm, hbm⟩ : ∃ bm, w1.heap.size = bm := ⟨_, rfl⟩
  rw [hbm] at z0 z1 z2 ⊢
  obtain ⟨bd, hbd⟩ : ∃ bd, bm + 1 = bd := ⟨_, rfl⟩
  rw [hbd] at z1 z2 ⊢
  obtain ⟨bx, hbx⟩ : ∃ bx, bd + 1 = bx := ⟨_, rfl⟩
  rw [hbx] at z2 ⊢
  have G1 := Lib.hid (show DAt V1 (x : Int) far a b bm bd from ⟨z0, z1⟩)
  clear hV1 hbm hbd hbx z0 z1 d1 haa hbb hna hnb h32 h64
  have q0 := cell_of_row V1 bx 0 _ _ _ z2
  have q1 := cell_of_row V1 bx 1 _ _ _ z2
  have q2 := cell_of_row V1 bx 2 _ _ _ z2
  have q3 := cell_of_row V1 bx 3 _ _ _ z2
  have q4 := cell_of_row V1 bx 4 _ _ _ z2
  have q5 := cell_of_row V1 bx 5 _ _ _ z2
  have q6 := cell_of_row V1 bx 6 _ _ _ z2
  simp only [List.getElem?_toArray, List.getElem?_cons_zero, List.getElem?_cons_succ] at q0 q1 q2 q3 q4 q5 q6
  clear z2
  go_wp2_with fail
  refine (new_of V1 _ _ _ _ _ _ _ (dM (x : Int) far a b) (G1.out.mod HSA.out HSB.out) (HE.out.later D1.out) (d_valid _ _ _ _ (by have := HX.out; omega) HFR.out) (d_room _ _ _ _ HSA.out HSB.out) ⟨by simp [dM], by simp [dM], by simp [dM]⟩ (.inr ⟨1, rfl, .inr ⟨by decide, by decide⟩⟩) (d_data _ _ _ _ HSA.out HSB.out) (fun F hF => by cases hF)).mono ?_
  rintro e w2 hP
  have HP := Lib.hid hP
  have hm := d_mem x y far a b HX.out HY.out
  have hw1 : IntKind.i64.wrap ((x : Int) + (a.size : Int)) = ((x + a.size : Nat) : Int) := by rw [IntWalk.i64_in _ (by have := HX.out; have := HSA.out; omega)]; omega
  have hw2 : IntKind.u64.wrap (b.size : Int) = (b.size : Int) := by rw [IntWalk.u64_in _ (by have := HSB.out; omega)]
  have hw3 : IntKind.u64.wrap ((y : Int) + (b.size : Int)) = ((y + b.size : Nat) : Int) := by rw [IntWalk.u64_in _ (by have := HYL.out; have := HSB.out; omega)]; omega
  have hw4 : IntKind.i64.wrap (x : Int) = (x : Int) := IntWalk.i64_in _ (by have := HX.out; omega)
  have hw5 : IntKind.u64.wrap (y : Int) = (y : Int) := IntWalk.u64_in _ (by have := HYL.out; omega)
  have HM := Lib.hid hm
  clear hm hP q0 q1 q2 q3 q4 q5 q6
  by_cases c1 : x + a.size ≤ 65536
  · have hd1 : decide ((x : Int) + (a.size : Int) ≤ 65536) = true := decide_eq_true (le_yes c1)
    have hd1n : decide (x + a.size ≤ 65536) = true := decide_eq_true c1
    by_cases c2 : y + b.size ≤ 65536
    · have hd2 : decide ((y : Int) + (b.size : Int) ≤ 65536) = true := decide_eq_true (le_yes c2)
      have hd2n : decide (y + b.size ≤ 65536) = true := decide_eq_true c2
      have CC := Lib.hid (show x + a.size ≤ 65536 ∧ y + b.size ≤ 65536 from ⟨c1, c2⟩)
      obtain ⟨K, lo, rfl, hM, _, hlow, hR, hmem, hb⟩ := newPost_some (HM.out.trans (if_pos CC.out)) HP.out
      obtain ⟨mb, pb, pc, pv, mx, hmp, hpm⟩ := hmem
      have HM2 := Lib.hid hM
      have HMP := Lib.hid hmp
      have HPM := Lib.hid hpm
      have B2 := Lib.hid (D1.out.trans (hb.mono D1.out.size))
      clear c1 c2 hM hmp hpm hb hlow hR HM HP
      go_wp2_with fail
      refine (memory_any HM2.out).mono ?_
      rintro e w3 ⟨rfl, c3⟩
      rw [HMP.out]
      have B3 := Lib.hid (B2.out.trans (c3.mono B2.out.size))
      have HPM := Lib.hid (HPM.out.later c3)
      clear c3
      go_wp2_with fail
      refine (bytes_any w3 lo mb pb pc pv mx _ HPM.out y (by have := HYL.out; omega) b.size (by have := HSB.out; omega)).mono ?_
      rintro e w4 ⟨rfl, c4⟩
      rw [if_pos CC.out.2, d_cut x y a b CC.out]
      have B4 := Lib.hid (B3.out.trans (c4.mono B3.out.size))
      clear c4
      go_wp2_with fail
      go_ret
      exact ⟨rfl, B4.out⟩
    · have hd2 : decide ((y : Int) + (b.size : Int) ≤ 65536) = false := decide_eq_false (le_no c2)
      have hd2n : decide (y + b.size ≤ 65536) = false := decide_eq_false c2
      obtain ⟨rfl, hb⟩ := newPost_none (HM.out.trans (if_neg (fun h => c2 h.2))) HP.out
      have B2 := Lib.hid (D1.out.trans (hb.mono D1.out.size))
      clear c1 c2 hb HM HP
      go_wp2_with fail
      go_ret
      exact ⟨rfl, B2.out⟩
  · have hd1 : decide ((x : Int) + (a.size : Int) ≤ 65536) = false := decide_eq_false (le_no c1)
    have hd1n : decide (x + a.size ≤ 65536) = false := decide_eq_false c1
    obtain ⟨rfl, hb⟩ := newPost_none (HM.out.trans (if_neg (fun h => c1 h.1))) HP.out
    have B2 := Lib.hid (D1.out.trans (hb.mono D1.out.size))
    clear c1 hb HM HP
    go_wp2_with fail
    go_ret
    exact ⟨rfl, B2.out⟩
end Go.Proofs.YtmbgemcddjailaaGreatDoor.Run
