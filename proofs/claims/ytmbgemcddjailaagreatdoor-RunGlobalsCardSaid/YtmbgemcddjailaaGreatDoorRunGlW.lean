/-
  The law RunGlobals. No condition beyond what each theorem names.
-/
import Derived.Test.YtmbgemcddjailaaGreatDoorRnZ
import Derived.Test.YtmbgemcddjailaaGreatDoorRunGlA
namespace Go.Proofs.YtmbgemcddjailaaGreatDoor.Run
open Go.RowKit Go.Maps Go.Lib Go.Proofs.YtmbgemcddjailaaGreatDoor.Op Go.Proofs.YtmbgemcddjailaaGreatDoor.Mod Go.Proofs.YtmbgemcddjailaaGreatDoor.Pg Go.Proofs.YtmbgemcddjailaaGreatDoor.Vld
set_option linter.unusedVariables false
theorem five_new (W : World) (o0 o1 o2 o3 o4 : Obj) : ∀ WF, (((((W.alloc o0).alloc o1).alloc o2).alloc o3).alloc o4) = WF → WF.heap[W.heap.size]? = some o0 ∧ WF.heap[W.heap.size + 1]? = some o1 ∧ WF.heap[W.heap.size + 1 + 1]? = some o2 ∧ WF.heap[W.heap.size + 1 + 1 + 1]? = some o3 ∧ WF.heap[W.heap.size + 1 + 1 + 1 + 1]? = some o4 ∧ Below W.heap.size W WF := by
  rintro WF rfl
  have b : Below W.heap.size W (((((W.alloc o0).alloc o1).alloc o2).alloc o3).alloc o4) := (((((Below.refl _ _).alloc (Nat.le_refl _) o0).alloc (by simp) o1).alloc (by simp; omega) o2).alloc (by simp; omega) o3).alloc (by simp; omega) o4
  have key : ∀ (V : World) (n : Nat) (o : Obj), V.heap.size = n → (V.alloc o).heap[n]? = some o := fun V n o h => by subst h; exact heap_alloc_new V o
  have old : ∀ (V : World) (n : Nat) (o q : Obj), V.heap[n]? = some q → (V.alloc o).heap[n]? = some q := fun V n o q h => (Below.heap_alloc V o n (Array.getElem?_eq_some_iff.1 h).1).trans h
  refine ⟨?_, ?_, ?_, ?_, ?_, b⟩
  · exact old _ _ _ _ (old _ _ _ _ (old _ _ _ _ (old _ _ _ _ (key _ _ _ rfl))))
  · exact old _ _ _ _ (old _ _ _ _ (old _ _ _ _ (key _ _ _ (by simp))))
  · exact old _ _ _ _ (old _ _ _ _ (key _ _ _ (by simp)))
  · exact old _ _ _ _ (key _ _ _ (by simp))
  · exact key _ _ _ (by simp)
/-- the globals of a machine, told without the machine -/
def SHeld (K : Mk) (gs : List Nat) (W : World) : Prop := W.cell? ⟨K.R, 8, none⟩ = some K.gv ∧ W.ownsRow K.w0.heap.size 22 1 K.gv gs.length (natsV gs)
theorem SHeld.of {W : World} {B : Nat} {K : Mk} {gs : List Nat} (h : MAt W B K gs) : SHeld K gs W := ⟨h.cells.2.2.2.2.2.2.2.2.1, h.glob⟩
theorem SHeld.keep {W W' : World} {K : Mk} {gs : List Nat} (h : SHeld K gs W) {F : Nat → Prop} (k : Keeps F W W') {n : Nat} (hF : ∀ j, F j → j < n) (hn : n ≤ K.w0.heap.size ∧ K.w0.heap.size ≤ K.R) : SHeld K gs W' :=
  ⟨k.cell h.1 (fun hf => by have h1 := hF _ hf; have h2 : (⟨K.R, 8, none⟩ : Addr).block = K.R := rfl; omega), ownsRow_of h.2 (fun j hj => k.block j (h.2.lt j hj).2 (fun hf => by have h1 := hF _ hf; have h2 := (h.2.lt j hj).1; omega))⟩
theorem SHeld.later {W W' : World} {K : Mk} {gs : List Nat} (h : SHeld K gs W) (hb : Below W.heap.size W W') : SHeld K gs W' := ⟨cell_later hb h.1, ownsRow_of h.2 (fun j hj => hb.block j (h.2.lt j hj).2)⟩
theorem g_valid : moduleE gM = 0 := by kernel_rfl
set_option maxRecDepth 100000 in
set_option maxHeartbeats 4000000 in
theorem globals_walk (a b : Nat) (ha : a < 18446744073709551616) (hb : b < 18446744073709551616) (w : World) (hE : MEnv w) : Calls Tryz.prog 3 #[.int .u64 (a : Int), .int .u64 (b : Int)] w fun e w' => e = .returned (.bool true) ∧ Below w.heap.size w w' := by
  have HE := Lib.hid hE
  have HA := Lib.hid ha
  have HB := Lib.hid hb
  clear hE ha hb
  go_enter Tryz.func3, Tryz.ntmps3
  go_wp2_with fail
  refine (examples09 _ HE.out).mono ?_
  rintro e w1 ⟨rfl, c1⟩
  have C1 := Lib.hid c1
  clear c1
  go_upto_region 5 with fail
  obtain ⟨V1, hV1⟩ : ∃ V, (((((w1.alloc (.cells #[.string ⟨#[126]⟩, .string ⟨#[126]⟩] 25)).alloc (.cells #[.int .i64 35, .int .i64 0, .int .i64 0, .slice none 0 0, .int .i64 32, .int .i64 0, .int .i64 0, .slice none 0 0, .int .i64 36, .int .i64 0, .int .i64 0, .slice none 0 0, .int .i64 11, .int .i64 0, .int .i64 0, .slice none 0 0] 29)).alloc (.cells #[.int .i64 0, .string ⟨#[]⟩, .slice (some ⟨w1.heap.size + 1, 0, none⟩) 4 4] 32)).alloc (.cells #[.int .i64 126, .bool true, .int .i64 5] 35)).alloc (.cells #[.slice (some ⟨w1.heap.size, 0, none⟩) 1 1, .slice (some ⟨w1.heap.size + 1 + 1, 0, none⟩) 1 1, .slice none 0 0, .slice (some ⟨w1.heap.size + 1 + 1 + 1, 0, none⟩) 1 1, .slice none 0 0, .int .i64 (-1), .slice none 0 0] 41)) = V := ⟨_, rfl⟩
  obtain ⟨z0, z1, z2, z3, z4, d1⟩ := five_new w1 _ _ _ _ _ V1 hV1
  rw [hV1]
  have D1 := Lib.hid (C1.out.trans (d1.mono C1.out.size))
  obtain ⟨bt, hbt⟩ : ∃ bt, w1.heap.size = bt := ⟨_, rfl⟩
  rw [hbt] at z0 z1 z2 z3 z4 ⊢
  obtain ⟨bi, hbi⟩ : ∃ bi, bt + 1 = bi := ⟨_, rfl⟩
  rw [hbi] at z1 z2 z3 z4 ⊢
  obtain ⟨bf, hbf⟩ : ∃ bf, bi + 1 = bf := ⟨_, rfl⟩
  rw [hbf] at z2 z3 z4 ⊢
  obtain ⟨bg, hbg⟩ : ∃ bg, bf + 1 = bg := ⟨_, rfl⟩
  rw [hbg] at z3 z4 ⊢
  obtain ⟨bx, hbx⟩ : ∃ bx, bg + 1 = bx := ⟨_, rfl⟩
  rw [hbx] at z4 ⊢
  have G1 := Lib.hid (show GAt V1 bt bi bf bg from ⟨z0, z1, z2, z3⟩)
  have X1 := Lib.hid z4
  clear hV1 hbt hbi hbf hbg hbx z0 z1 z2 z3 d1
  have q0 := cell_of_row V1 bx 0 _ _ _ z4
  have q1 := cell_of_row V1 bx 1 _ _ _ z4
  have q2 := cell_of_row V1 bx 2 _ _ _ z4
  have q3 := cell_of_row V1 bx 3 _ _ _ z4
  have q4 := cell_of_row V1 bx 4 _ _ _ z4
  have q5 := cell_of_row V1 bx 5 _ _ _ z4
  have q6 := cell_of_row V1 bx 6 _ _ _ z4
  simp only [List.getElem?_toArray, List.getElem?_cons_zero, List.getElem?_cons_succ] at q0 q1 q2 q3 q4 q5 q6
  clear z4
  go_wp2_with fail
  refine (new_of V1 _ _ _ _ _ _ _ gM G1.out.mod (HE.out.later D1.out) g_valid g_room ⟨by decide, by decide, by decide⟩ (.inl ⟨rfl, rfl⟩) (fun x hx => by cases hx) g_flat).mono ?_
  rintro e w2 hP
  obtain ⟨K1, lo1, rfl, hM1, hm1, hlow1, hR1, _, hb1⟩ := newPost_some g_mem hP
  rw [g_glob] at hM1
  have HM1 := Lib.hid hM1
  have HK1 := Lib.hid hm1
  have B2 := Lib.hid (D1.out.trans (hb1.mono D1.out.size))
  have L1 := Lib.hid (Nat.le_trans D1.out.size hlow1)
  have G2 := Lib.hid (G1.out.later hb1)
  have hx2 := (hb1.block _ (Array.getElem?_eq_some_iff.1 X1.out).1).trans X1.out
  have X2 := Lib.hid hx2
  clear hP hM1 hm1 hlow1 hR1 hb1 q0 q1 q2 q3 q4 q5 q6 X1 G1
  have q0 := cell_of_row w2 bx 0 _ _ _ hx2
  have q1 := cell_of_row w2 bx 1 _ _ _ hx2
  have q2 := cell_of_row w2 bx 2 _ _ _ hx2
  have q3 := cell_of_row w2 bx 3 _ _ _ hx2
  have q4 := cell_of_row w2 bx 4 _ _ _ hx2
  have q5 := cell_of_row w2 bx 5 _ _ _ hx2
  have q6 := cell_of_row w2 bx 6 _ _ _ hx2
  simp only [List.getElem?_toArray, List.getElem?_cons_zero, List.getElem?_cons_succ] at q0 q1 q2 q3 q4 q5 q6
  clear hx2
  go_wp2_with fail
  refine (new_of w2 _ _ _ _ _ _ _ gM G2.out.mod (HE.out.later B2.out) g_valid g_room ⟨by decide, by decide, by decide⟩ (.inl ⟨rfl, rfl⟩) (fun x hx => by cases hx) g_flat).mono ?_
  rintro e w3 hP
  obtain ⟨K2, lo2, rfl, hM2, hm2, hlow2, hR2, _, hb2⟩ := newPost_some g_mem hP
  rw [g_glob] at hM2
  have HS3 := Lib.hid (SHeld.of hM2)
  have HN2 := Lib.hid (show w2.heap.size ≤ K2.w0.heap.size ∧ K2.w0.heap.size ≤ K2.R from ⟨hlow2, hM2.lt.1⟩)
  have HF := Lib.hid (show ∀ j, K1.foot j → j < w2.heap.size from fun j hj => HM1.out.glt j hj)
  have HM3 := Lib.hid (HM1.out.later hb2).top
  have B3 := Lib.hid (B2.out.trans (hb2.mono B2.out.size))
  clear hP hM2 hm2 hlow2 hR2 hb2 q0 q1 q2 q3 q4 q5 q6 X2 G2 HM1
  go_wp2_with fail
  obtain ⟨V3, hV3⟩ : ∃ V, w3.alloc (.cells #[.int .u64 (a : Int)] 22) = V := ⟨_, rfl⟩
  have d3 : Below w3.heap.size w3 V3 := by rw [← hV3]; exact (Below.refl _ _).alloc (Nat.le_refl _) _
  have r3 : V3.heap[w3.heap.size]? = some (.cells #[.int .u64 (a : Int)] 22 (0, 0)) := by rw [← hV3]; exact heap_alloc_new _ _
  rw [hV3]
  have HN3 := Lib.hid (HM3.out.later d3).top
  have HT3 := Lib.hid (HS3.out.later d3)
  have D3 := Lib.hid (B3.out.trans (d3.mono B3.out.size))
  have R3 := Lib.hid r3
  clear hV3 d3 r3 HM3 HS3
  refine (g_call V3 K1 5 HN3.out HK1.out a HA.out w3.heap.size (cell_of_row _ _ _ _ _ _ R3.out)).mono ?_
  rintro e w4 ⟨sv, rfl, hz⟩
  obtain ⟨sb, cap, rfl, hc, hnf, hlt⟩ := callZ_cell HN3.out hz
  have HM4 := Lib.hid (callZ_top hz)
  have HS4 := Lib.hid (HT3.out.keep hz.2.2 HF.out HN2.out)
  have B4 := Lib.hid (D3.out.trans (hz.2.2.below (fun j hj => Nat.le_trans L1.out (HN3.out.glob.lt j hj).1) D3.out.size))
  have HC4 := Lib.hid hc
  have HNF := Lib.hid hnf
  clear hz hc hnf HN3 R3 HT3
  go_wp2_with fail
  obtain ⟨V4, hV4⟩ : ∃ V, w4.alloc (.cells #[.int .u64 (b : Int)] 22) = V := ⟨_, rfl⟩
  have d4 : Below w4.heap.size w4 V4 := by rw [← hV4]; exact (Below.refl _ _).alloc (Nat.le_refl _) _
  have r4 : V4.heap[w4.heap.size]? = some (.cells #[.int .u64 (b : Int)] 22 (0, 0)) := by rw [← hV4]; exact heap_alloc_new _ _
  rw [hV4]
  have HN4 := Lib.hid (HM4.out.later d4).top
  have HT4 := Lib.hid (HS4.out.later d4)
  have D4 := Lib.hid (B4.out.trans (d4.mono B4.out.size))
  have R4 := Lib.hid r4
  have HC4 := Lib.hid (cell_later d4 HC4.out)
  clear hV4 d4 r4 HM4 HS4
  refine (g_call V4 K1 a HN4.out HK1.out b HB.out w4.heap.size (cell_of_row _ _ _ _ _ _ R4.out)).mono ?_
  rintro e w5 ⟨sv, rfl, hz⟩
  obtain ⟨sb2, cap2, rfl, hc, hnf, hlt2⟩ := callZ_cell HN4.out hz
  have HM5 := Lib.hid (callZ_top hz)
  have HS5 := Lib.hid (HT4.out.keep hz.2.2 HF.out HN2.out)
  have HC5 := Lib.hid (hz.2.2.cell HC4.out HNF.out)
  have B5 := Lib.hid (D4.out.trans (hz.2.2.below (fun j hj => Nat.le_trans L1.out (HN4.out.glob.lt j hj).1) D4.out.size))
  have HD5 := Lib.hid hc
  clear hz hc hnf HN4 R4 HT4 HC4
  go_wp2_with fail
  refine (global_any HM5.out 0 b rfl (by simp)).mono ?_
  rintro e w6 ⟨rfl, c6⟩
  have HM6 := Lib.hid (HM5.out.later c6).top
  have HS6 := Lib.hid (HS5.out.later c6)
  have HC6 := Lib.hid (cell_later c6 HC5.out)
  have HD6 := Lib.hid (cell_later c6 HD5.out)
  have B6 := Lib.hid (B5.out.trans (c6.mono B5.out.size))
  clear c6 HM5 HS5 HC5 HD5
  go_wp2_with fail
  refine (global_row HS6.out.1 HS6.out.2 0 5 rfl (by simp)).mono ?_
  rintro e w7 ⟨rfl, c7⟩
  have HM7 := Lib.hid (HM6.out.later c7).top
  have HC7 := Lib.hid (cell_later c7 HC6.out)
  have HD7 := Lib.hid (cell_later c7 HD6.out)
  have B7 := Lib.hid (B6.out.trans (c7.mono B6.out.size))
  clear c7 HM6 HS6 HC6 HD6
  go_wp2_with fail
  refine (call_over w7 K1 _ HM7.out 1 (by rw [HK1.out]; decide) (by decide) 4 _).mono ?_
  rintro e w8 ⟨rfl, c8⟩
  have HM8 := Lib.hid (HM7.out.later c8).top
  have HC8 := Lib.hid (cell_later c8 HC7.out)
  have HD8 := Lib.hid (cell_later c8 HD7.out)
  have B8 := Lib.hid (B7.out.trans (c8.mono B7.out.size))
  clear c8 HM7 HC7 HD7
  go_wp2_with fail
  refine (call_short w8 K1 _ HM8.out 0 gF (by rw [HK1.out]; rfl) 0 rfl gT (by rw [HK1.out]; rfl) (by decide) (by rw [HK1.out]; decide) (by rw [HK1.out]; decide) 4).mono ?_
  rintro e w9 ⟨rfl, c9⟩
  have hc9 := cell_later c9 HC8.out
  have hd9 := cell_later c9 HD8.out
  have B9 := Lib.hid (B8.out.trans (c9.mono B8.out.size))
  clear c9 HM8 HC8 HD8
  have e1 : ((a : Int) == (a : Int)) = true := by simp
  have e2 : ((b : Int) == (b : Int)) = true := by simp
  go_wp2_with fail
  go_ret
  exact ⟨rfl, B9.out⟩
end Go.Proofs.YtmbgemcddjailaaGreatDoor.Run
