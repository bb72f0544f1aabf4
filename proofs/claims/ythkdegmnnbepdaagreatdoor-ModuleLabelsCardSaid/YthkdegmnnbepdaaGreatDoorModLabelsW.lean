/-
  The law of labels: the walk itself. No condition beyond what each theorem names.
-/
import Derived.Test.YthkdegmnnbepdaaGreatDoorModLabels
namespace Go.Proofs.YthkdegmnnbepdaaGreatDoor.Mod
open Go.RowKit Go.Maps Go.Proofs.YthkdegmnnbepdaaGreatDoor.Op Go.Proofs.YthkdegmnnbepdaaGreatDoor.Pg
set_option linter.unusedVariables false
set_option maxRecDepth 100000 in
set_option maxHeartbeats 8000000 in
theorem labels_walk (v : Value) (zs : List Int) (w : World) (hE : MEnv w) (hP : PowEnv w) (hz : ∀ z ∈ zs, 0 ≤ z ∧ z < 65536) (hv : NumsAt .u16 w v zs) :
    Calls Tryz.prog 6 #[v] w fun e w' => e = .returned (.bool true) ∧ Below w.heap.size w w' := by
  obtain ⟨la, lc, rfl, hlen, hcell⟩ := hv
  have HX := Lib.hid (examples04 w hE hP)
  have HC := Lib.hid hcell
  have HZ := Lib.hid hz
  have HE := Lib.hid hE
  clear hE hP hcell hz
  go_enter Tryz.func6, Tryz.ntmps6
  go_wp2_with fail
  refine HX.out.mono ?_
  rintro e w1 ⟨rfl, c1⟩
  have C1 := Lib.hid c1
  have HB0 := Lib.hid (show LabBox w1.heap.size w1.heap.size (.slice none 0 0) [] w (w1.alloc (.cells #[.int .i64 14, .int .i64 0, .int .i64 0, .slice none 0 0] 40)) from ⟨heap_alloc_new _ _, own_nil _ _ _ _, c1.alloc c1.size _, by simp⟩)
  clear c1
  go_wp2_with fail
  go_loopw [5] (fun i wr => ∃ (k : Nat) (a : Option Addr) (cap : Nat), k ≤ zs.length ∧ k ≤ 50 ∧ i = .int .i64 k ∧ LabBox w1.heap.size w1.heap.size (.slice a k cap) (zs.take k) w wr) (fun i _ => 60 - (intOf i).toNat)
  case atStart => exact ⟨0, none, 0, Nat.zero_le _, Nat.zero_le _, rfl, HB0.out⟩
  case round =>
    obtain ⟨k, a, cap, hk1, hk2, rfl, hB⟩ := hrel
    have HB := Lib.hid hB
    clear hB
    obtain ⟨wq, hwq⟩ : ∃ wq : World, wq = wr := ⟨_, rfl⟩
    rw [← hwq] at HB ⊢
    clear hwq
    by_cases hlt : k < zs.length ∧ k < 50
    · obtain ⟨hlt1, hlt2⟩ := hlt
      obtain ⟨z, hzk⟩ : ∃ z, zs[k]? = some z := ⟨_, List.getElem?_eq_getElem hlt1⟩
      obtain ⟨b, off, rfl, hcl⟩ := HC.out k z hzk
      have hz8 := HZ.out z (List.mem_of_getElem? hzk)
      have hz0 : 0 ≤ z := hz8.1
      have hz1 : z < 65536 := hz8.2
      have q0 : wq.cell? ⟨b, off + k, none⟩ = some (.int .u16 z) := cell_later HB.out.2.2.1 hcl
      have q1 : wq.cell? ⟨w1.heap.size, 3, none⟩ = some (.slice a k cap) := cell_of_row _ _ _ _ _ _ HB.out.1
      have hbl : b < wq.heap.size := World.block_lt_of_cell? _ _ q0
      have hxl : w1.heap.size < wq.heap.size := World.block_lt_of_cell? _ _ q1
      have HT := Lib.hid (show zs.take (k + 1) = zs.take k ++ [z] by rw [List.take_add_one, hzk]; rfl)
      have HTL := Lib.hid (show (zs.take k).length = k by rw [List.length_take]; omega)
      have HO := Lib.hid (show OwnAt (wq.alloc (.cells #[.int .i64 z] 3)) w1.heap.size 3 1 (.slice a k cap) ((zs.take k).map fun z => [.int .i64 z]) from OwnAt.later HB.out.2.1 ((Below.refl _ _).alloc (Nat.le_refl _) _))
      have HR := Lib.hid (row_new wq 3 [.int .i64 z])
      have HBS := Lib.hid (show w1.heap.size ≤ (wq.alloc (.cells #[.int .i64 z] 3)).heap.size by simp; omega)
      have HRM := Lib.hid (show ((zs.take k).map fun z => [Value.int .i64 z]).length + 1 ≤ 1000000000 ∧ 8 ≤ 1000 by rw [List.length_map, HTL.out]; omega)
      clear hcl hzk hz8
      have hwz : IntKind.i64.wrap z = z := IntWalk.i64_in _ (by omega)
      have d1 : decide (k < zs.length) = true := decide_eq_true hlt1
      have d2 : decide ((k : Int) < 50) = true := decide_eq_true (by omega)
      go_wp2_with fail
      go_region_law ((refine step_app ty_int (by rfl) _ _ (by rfl) (by rfl) (HO.out.later (Below.refl _ _).drew) (by rfl) (HR.out.later (Below.refl _ _).drew) (one_lab z) HRM.out HBS.out ?_; intro a' cap' w2 ho2 hk2' hnb2; have hb2 := (hk2'.block w1.heap.size (Nat.lt_of_lt_of_le hxl (Nat.le_of_lt (by show wq.heap.size < (wq.alloc _).heap.size; simp))) (fun e => kind_ne HB.out.2.1.1 HB.out.1 (by decide) e)).trans ((Below.heap_alloc wq _ _ hxl).trans HB.out.1); have cz : w2.cell? ⟨w1.heap.size, 3, none⟩ = some (.slice a k cap) := cell_of_row _ _ _ _ _ _ hb2; have fz : w2.frozen? ⟨w1.heap.size, 3, none⟩ = false := frozen_of_row _ _ _ _ _ hb2; clear hb2))
      all_goals
        have hl9 : ((zs.take k).map fun z => [Value.int .i64 z]).length + [[Value.int .i64 z]].length = k + 1 := by rw [List.length_map, HTL.out]; rfl
        rw [hl9] at ho2
        have HLB := Lib.hid (lab_more HB.out C1.out.size (Nat.le_refl _) ho2 (keeps_drew hk2'))
        clear ho2 hk2' hnb2 cz fz hl9
        go_wp2_with fail
        go_roundw
        case rel => exact ⟨k + 1, a', cap', by omega, by omega, by go_num, by rw [HT.out]; exact HLB.out⟩
        case measure => simp [intOf]; omega
    · have hex : decide (k < zs.length) = false ∨ (decide (k < zs.length) = true ∧ decide ((k : Int) < 50) = false) := by
        rcases (show k = zs.length ∨ (k < zs.length ∧ k = 50) by omega) with h9 | ⟨h9, h8⟩
        · exact .inl (decide_eq_false (by omega))
        · exact .inr ⟨decide_eq_true h9, decide_eq_false (by omega)⟩
      obtain ⟨ls, hls⟩ : ∃ ls, zs.take k = ls := ⟨_, rfl⟩
      rw [hls] at HB
      have HLL := Lib.hid (show ls.length = k by rw [← hls, List.length_take]; omega)
      have HLZ := Lib.hid (show ∀ z ∈ ls, 0 ≤ z ∧ z < 65536 from fun z hz => HZ.out z (by rw [← hls] at hz; exact List.mem_of_mem_take hz))
      obtain ⟨x0, x1, x2, x3⟩ : wq.cell? ⟨w1.heap.size, 0, none⟩ = some (.int .i64 14) ∧ wq.cell? ⟨w1.heap.size, 1, none⟩ = some (.int .i64 0) ∧ wq.cell? ⟨w1.heap.size, 2, none⟩ = some (.int .i64 0) ∧ wq.cell? ⟨w1.heap.size, 3, none⟩ = some (.slice a k cap) :=
        ⟨cell_of_row _ _ _ _ _ _ HB.out.1, cell_of_row _ _ _ _ _ _ HB.out.1, cell_of_row _ _ _ _ _ _ HB.out.1, cell_of_row _ _ _ _ _ _ HB.out.1⟩
      have hxl : w1.heap.size < wq.heap.size := World.block_lt_of_cell? _ _ x0
      clear hls
      rcases hex with d1 | ⟨d1, d2⟩
      all_goals
        go_wp2_with fail
        obtain ⟨W, hW⟩ : ∃ W, (((wq.alloc (.cells #[.int .i64 14, .int .i64 0, .int .i64 0, .slice a k cap, .int .i64 11, .int .i64 0, .int .i64 0, .slice none 0 0] 40)).alloc (.cells #[.int .i64 0, .string ⟨#[]⟩, .slice (some ⟨wq.heap.size, 0, none⟩) 2 2] 33)).alloc (.cells #[.slice none 0 0, .slice (some ⟨wq.heap.size + 1, 0, none⟩) 1 1, .slice none 0 0, .slice none 0 0, .slice none 0 0, .int .i64 (-1), .slice none 0 0] 29)) = W := ⟨_, rfl⟩
        have hLA := labAll_start HB.out hW
        rw [hW]
        have HLA := Lib.hid hLA
        clear hW hLA x0 x1 x2 x3 hxl
        refine (copy_mod HLA.out.mod (modL_room ls (by rw [HLL.out]; omega))).mono ?_
        rintro e w2 ⟨ct, cf, cme, cg, ce, cd, rfl, hown, cb⟩
        obtain ⟨gf, capf, gc, capc, rfl, hgc, hgf⟩ := copyL_form hown
        obtain ⟨ca1, cp1, ca2, cp2, ca3, cp3, ca4, cp4, ca5, cp5, rfl, rfl, rfl, rfl, rfl⟩ := copyL_nils hown
        have HCB := Lib.hid cb
        obtain ⟨w3, hw3⟩ : ∃ w3, w2.alloc (.cells #[(.slice ca1 0 cp1), .slice (some ⟨gf, 0, none⟩) 1 capf, (.slice ca2 0 cp2), (.slice ca3 0 cp3), (.slice ca4 0 cp4), .int .i64 (-1), (.slice ca5 0 cp5)] 29) = w3 := ⟨_, rfl⟩
        have k3 : Below w2.heap.size w2 w3 := by rw [← hw3]; exact (Below.refl _ _).alloc (Nat.le_refl _) _
        have HOWN := Lib.hid (OwnMod.later hown k3)
        have HLA3 := Lib.hid ((HLA.out.later cb).later k3)
        have hgc3 := cell_later k3 hgc
        have hbx : w3.heap[w2.heap.size]? = some (.cells #[(.slice ca1 0 cp1), .slice (some ⟨gf, 0, none⟩) 1 capf, (.slice ca2 0 cp2), (.slice ca3 0 cp3), (.slice ca4 0 cp4), .int .i64 (-1), (.slice ca5 0 cp5)] 29 (0, 0)) := by rw [← hw3]; exact heap_alloc_new _ _
        have HBX := Lib.hid hbx
        clear hown hgc hgf cb k3 hbx
        have hret : modV (.slice ca1 0 cp1) (.slice (some ⟨gf, 0, none⟩) 1 capf) (.slice ca2 0 cp2) (.slice ca3 0 cp3) (.slice ca4 0 cp4) (modL ls).start (.slice ca5 0 cp5) = .agg #[(.slice ca1 0 cp1), .slice (some ⟨gf, 0, none⟩) 1 capf, (.slice ca2 0 cp2), (.slice ca3 0 cp3), (.slice ca4 0 cp4), .int .i64 (-1), (.slice ca5 0 cp5)] := rfl
        rw [hret]
        clear hret
        obtain ⟨c0, c1, c2, c3, c4, c5, c6⟩ := box_cells HBX.out
        obtain ⟨m0, m1, m2, m3, m4, m5, m6⟩ := box_cells HLA3.out.hm
        go_upto_region 11 with fail
        clear hw3
        go_wp2_with fail
        refine (same_call (r := true) HLA3.out.mod (HOWN.out.mod (modL_room ls (by rw [HLL.out]; omega))) (modL_room ls (by rw [HLL.out]; omega)).labs (modL_room ls (by rw [HLL.out]; omega)).labs (sameM_self _)).mono ?_
        rintro e w4 ⟨rfl, b4⟩
        have HLA4 := Lib.hid (HLA3.out.later b4)
        have HO4 := Lib.hid (OwnMod.later HOWN.out b4)
        have HBX4 := Lib.hid ((b4.block _ (Array.getElem?_eq_some_iff.1 HBX.out).1).trans HBX.out)
        have x3 : w4.cell? ⟨w1.heap.size, 3, none⟩ = some (.slice a k cap) := cell_of_row _ _ _ _ _ _ HLA4.out.hx
        clear b4 c0 c1 c2 c3 c4 c5 c6 m0 m1 m2 m3 m4 m5 m6 hgc3
        cases ls with
        | nil =>
          obtain rfl : k = 0 := HLL.out.symm
          go_wp2_with fail
          clear x3
          have HK := Lib.hid (show HeldL (wq.heap.size + 1 + 1) w2.heap.size w1.heap.size (.slice (some ⟨wq.heap.size + 1, 0, none⟩) 1 1) (.slice ca1 0 cp1) (.slice (some ⟨gf, 0, none⟩) 1 capf) (.slice ca2 0 cp2) (.slice ca3 0 cp3) (.slice ca4 0 cp4) (.slice ca5 0 cp5) (.slice a 0 cap) w4 w4 from ⟨box_cells HLA4.out.hm, box_cells HBX4.out, cell_of_row _ _ _ _ _ _ HLA4.out.hx, Below.refl _ _⟩)
          change Hid (HeldL (wq.heap.size + 1 + 1) w2.heap.size w1.heap.size (.slice (some ⟨wq.heap.size + 1, 0, none⟩) 1 1) (.slice ca1 0 cp1) (.slice (some ⟨gf, 0, none⟩) 1 capf) (.slice ca2 0 cp2) (.slice ca3 0 cp3) (.slice ca4 0 cp4) (.slice ca5 0 cp5) (.slice a 0 cap) w4 w4) at HK
          have HSM := Lib.hid (fun (V : World) (hb : Below w4.heap.size w4 V) => (show Calls Tryz.prog 19 #[.agg #[.slice none 0 0, .slice (some ⟨wq.heap.size + 1, 0, none⟩) 1 1, .slice none 0 0, .slice none 0 0, .slice none 0 0, .int .i64 (-1), .slice none 0 0], .agg #[.slice ca1 0 cp1, .slice (some ⟨gf, 0, none⟩) 1 capf, .slice ca2 0 cp2, .slice ca3 0 cp3, .slice ca4 0 cp4, .int .i64 (-1), .slice ca5 0 cp5]] V fun e w' => e = .returned (.bool true) ∧ Below V.heap.size V w' from same_call (HLA4.out.later hb).mod ((OwnMod.later HO4.out hb).mod (modL_room [] (by decide))) (modL_room [] (by decide)).labs (modL_room [] (by decide)).labs (sameM_self _)))
          go_region_held3 (fun V => HeldL (wq.heap.size + 1 + 1) w2.heap.size w1.heap.size (.slice (some ⟨wq.heap.size + 1, 0, none⟩) 1 1) (.slice ca1 0 cp1) (.slice (some ⟨gf, 0, none⟩) 1 capf) (.slice ca2 0 cp2) (.slice ca3 0 cp3) (.slice ca4 0 cp4) (.slice ca5 0 cp5) (.slice a 0 cap) w4 V)
            (first | (with_reducible assumption) | (with_reducible exact HK.out) | (with_reducible exact heldL_drew HK.out) | (with_reducible exact heldL_drew (by with_reducible assumption)))
            (first
              | (go_at_call 19; (with_reducible refine (HSM.out _ ?_).mono ?_); (exact (‹HeldL (wq.heap.size + 1 + 1) w2.heap.size w1.heap.size (.slice (some ⟨wq.heap.size + 1, 0, none⟩) 1 1) (.slice ca1 0 cp1) (.slice (some ⟨gf, 0, none⟩) 1 capf) (.slice ca2 0 cp2) (.slice ca3 0 cp3) (.slice ca4 0 cp4) (.slice ca5 0 cp5) (.slice a 0 cap) w4 _›).2.2.2); rintro en Wa ⟨rfl, ka⟩; have sa := heldL_later (W0 := w4) ka (by with_reducible assumption)))
          all_goals
            go_wp2_with fail
            go_ret
            exact ⟨by rfl, HLA4.out.hb.trans (sa.2.2.2.mono HLA4.out.hb.size)⟩
        | cons z0 ls0 =>
          have hk0 : ls0.length + 1 = k := HLL.out
          obtain ⟨gl, gcap, hgl, hglB, hglT⟩ := OwnAt.block HLA4.out.hl (i := 0) (r := [.int .i64 z0]) rfl
          simp only [Value.slice.injEq] at hgl
          obtain ⟨rfl, _, rfl⟩ := hgl
          have e0 : w4.cell? ⟨gl, 0, none⟩ = some (.int .i64 z0) := OwnAt.cell HLA4.out.hl (by decide) (i := 0) (j := 0) (r := [.int .i64 z0]) rfl rfl
          have f0 : w4.frozen? ⟨gl, 0, none⟩ = false := OwnAt.soft HLA4.out.hl 0
          have hz := HLZ.out z0 List.mem_cons_self
          have hz0 : 0 ≤ z0 := hz.1
          have hz1 : z0 < 65536 := hz.2
          have HKK := Lib.hid hk0
          have d5 : decide ((0 : Int) < (k : Int)) = true := decide_eq_true (by omega)
          have d6 : decide (0 < k) = true := decide_eq_true (by omega)
          have d7 : ((k : Int) == 0) = false := by simp; omega
          have d8 : (0 : Int) < (k : Int) := by omega
          have d9 : 0 < k := by omega
          have HGW := Lib.hid (HLA.out.hl.1.lt gl rfl).2
          clear hz hk0
          go_wp2_with fail
          obtain ⟨w5, hw5⟩ : ∃ w5, w4.setCell ⟨gl, 0, none⟩ (.int .i64 (z0 + 1)) = w5 := ⟨_, rfl⟩
          have HLA5 := Lib.hid (show LabAll w w1.heap.size wq.heap.size (.slice (some ⟨gl, 0, none⟩) k cap) ((z0 + 1) :: ls0) w5 by rw [← hw5]; exact labAll_turn HLA4.out HKK.out.symm C1.out.size (z0 + 1))
          have HO5 := Lib.hid (show OwnMod w5 W.heap.size (.slice ca1 0 cp1) (.slice (some ⟨gf, 0, none⟩) 1 capf) (.slice ca2 0 cp2) (.slice ca3 0 cp3) (.slice ca4 0 cp4) (.slice ca5 0 cp5) (modL (z0 :: ls0)) by rw [← hw5]; exact OwnMod.above HO4.out (Keeps.setCell (F := fun j => j = gl) w4 ⟨gl, 0, none⟩ (.int .i64 (z0 + 1)) rfl) (fun j hj => by have e : j = gl := hj; rw [e]; exact HGW.out))
          have HBX5 := Lib.hid (show w5.heap[w2.heap.size]? = some (.cells #[.slice ca1 0 cp1, .slice (some ⟨gf, 0, none⟩) 1 capf, .slice ca2 0 cp2, .slice ca3 0 cp3, .slice ca4 0 cp4, .int .i64 (-1), .slice ca5 0 cp5] 29 (0, 0)) by rw [← hw5]; exact (Below.heap_setCell _ _ _ _ (fun e => by have e1 : w2.heap.size = gl := e; have h1 := HGW.out; have h2 := HCB.out.size; omega)).trans HBX4.out)
          rw [hw5]
          clear hw5 x3 e0 f0 hglB hglT
          have HK := Lib.hid (show HeldL (wq.heap.size + 1 + 1) w2.heap.size w1.heap.size (.slice (some ⟨wq.heap.size + 1, 0, none⟩) 1 1) (.slice ca1 0 cp1) (.slice (some ⟨gf, 0, none⟩) 1 capf) (.slice ca2 0 cp2) (.slice ca3 0 cp3) (.slice ca4 0 cp4) (.slice ca5 0 cp5) (.slice (some ⟨gl, 0, none⟩) k cap) w5 w5 from ⟨box_cells HLA5.out.hm, box_cells HBX5.out, cell_of_row _ _ _ _ _ _ HLA5.out.hx, Below.refl _ _⟩)
          change Hid (HeldL (wq.heap.size + 1 + 1) w2.heap.size w1.heap.size (.slice (some ⟨wq.heap.size + 1, 0, none⟩) 1 1) (.slice ca1 0 cp1) (.slice (some ⟨gf, 0, none⟩) 1 capf) (.slice ca2 0 cp2) (.slice ca3 0 cp3) (.slice ca4 0 cp4) (.slice ca5 0 cp5) (.slice (some ⟨gl, 0, none⟩) k cap) w5 w5) at HK
          have HSM := Lib.hid (fun (V : World) (hb : Below w5.heap.size w5 V) => (show Calls Tryz.prog 19 #[.agg #[.slice none 0 0, .slice (some ⟨wq.heap.size + 1, 0, none⟩) 1 1, .slice none 0 0, .slice none 0 0, .slice none 0 0, .int .i64 (-1), .slice none 0 0], .agg #[.slice ca1 0 cp1, .slice (some ⟨gf, 0, none⟩) 1 capf, .slice ca2 0 cp2, .slice ca3 0 cp3, .slice ca4 0 cp4, .int .i64 (-1), .slice ca5 0 cp5]] V fun e w' => e = .returned (.bool false) ∧ Below V.heap.size V w' from same_call (HLA5.out.later hb).mod ((OwnMod.later HO5.out hb).mod (modL_room (z0 :: ls0) (by rw [HLL.out]; omega))) (modL_room ((z0 + 1) :: ls0) (by show ls0.length + 1 ≤ 1000; rw [HKK.out]; omega)).labs (modL_room (z0 :: ls0) (by rw [HLL.out]; omega)).labs (modL_ne (fun e => by injection e with e1; omega))))
          go_region_held3 (fun V => HeldL (wq.heap.size + 1 + 1) w2.heap.size w1.heap.size (.slice (some ⟨wq.heap.size + 1, 0, none⟩) 1 1) (.slice ca1 0 cp1) (.slice (some ⟨gf, 0, none⟩) 1 capf) (.slice ca2 0 cp2) (.slice ca3 0 cp3) (.slice ca4 0 cp4) (.slice ca5 0 cp5) (.slice (some ⟨gl, 0, none⟩) k cap) w5 V)
            (first | (with_reducible assumption) | (with_reducible exact HK.out) | (with_reducible exact heldL_drew HK.out) | (with_reducible exact heldL_drew (by with_reducible assumption)))
            (first
              | (go_at_call 19; (with_reducible refine (HSM.out _ ?_).mono ?_); (exact (‹HeldL (wq.heap.size + 1 + 1) w2.heap.size w1.heap.size (.slice (some ⟨wq.heap.size + 1, 0, none⟩) 1 1) (.slice ca1 0 cp1) (.slice (some ⟨gf, 0, none⟩) 1 capf) (.slice ca2 0 cp2) (.slice ca3 0 cp3) (.slice ca4 0 cp4) (.slice ca5 0 cp5) (.slice (some ⟨gl, 0, none⟩) k cap) w5 _›).2.2.2); rintro en Wa ⟨rfl, ka⟩; have sa := heldL_later (W0 := w5) ka (by with_reducible assumption)))
          all_goals
            go_wp2_with fail
            go_ret
            exact ⟨by rfl, HLA5.out.hb.trans (sa.2.2.2.mono HLA5.out.hb.size)⟩
end Go.Proofs.YthkdegmnnbepdaaGreatDoor.Mod
