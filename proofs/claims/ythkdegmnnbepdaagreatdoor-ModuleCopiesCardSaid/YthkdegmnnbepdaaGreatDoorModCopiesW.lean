/-
  The law of copies: the walk itself. No condition beyond what each theorem names.
-/
import Derived.Test.YthkdegmnnbepdaaGreatDoorModCopies
namespace Go.Proofs.YthkdegmnnbepdaaGreatDoor.Mod
open Go.RowKit Go.Maps Go.Proofs.YthkdegmnnbepdaaGreatDoor.Op Go.Proofs.YthkdegmnnbepdaaGreatDoor.Pg
set_option linter.unusedVariables false
set_option maxRecDepth 100000 in
set_option maxHeartbeats 8000000 in
theorem copies_walk (l : List Step) (at8 : Nat) (w : World) (hE : MEnv w) (hP : PowEnv w) (ha8 : at8 < 256) (la : Option Addr) (lc : Nat) (hv : StepsAt w (.slice la l.length lc) l) (hwf : ∀ t ∈ l, -9223372036854775808 ≤ t.a ∧ t.a ≤ 9223372036854775807) :
    Calls Tryz.prog 5 #[.slice la l.length lc, .int .u8 (at8 : Int)] w fun e w' => e = .returned (.bool true) ∧ Below w.heap.size w w' := by
  have HX := Lib.hid (examples04 w hE hP)
  have HV := Lib.hid hv
  have HE := Lib.hid hE
  have hle : l.length ≤ 9223372036854775807 := by
    obtain ⟨_, _, _, h, _⟩ := hv.form
    exact h
  obtain ⟨cl, hcl⟩ : ∃ cl, (madeP l).code.map toL = cl := ⟨_, rfl⟩
  obtain ⟨N, hN⟩ : ∃ N, cl.length = N := ⟨_, rfl⟩
  have hN0 : 0 < N := by rw [← hN, ← hcl, List.length_map]; exact made_pos l
  have hN1 : N ≤ 100000 := by rw [← hN, ← hcl, List.length_map]; exact made_len l
  obtain ⟨k, hk⟩ : ∃ k, at8 % N = k := ⟨_, rfl⟩
  have hkN : k < N := by rw [← hk]; exact Nat.mod_lt _ hN0
  obtain ⟨x, hx⟩ : ∃ x, cl[k]? = some x := ⟨_, List.getElem?_eq_getElem (by omega)⟩
  have hxw : -9223372036854775808 ≤ x.a ∧ x.a ≤ 9223372036854775807 := by
    have h1 := List.mem_of_getElem? hx
    rw [← hcl] at h1
    obtain ⟨y, hy, rfl⟩ := List.mem_map.1 h1
    exact (made_wf l hwf y hy).1
  have HLB := Lib.hid (show ∀ y ∈ cl, y.labels.length ≤ 1000000000 by
    intro y hy
    rw [← hcl] at hy
    obtain ⟨z, _, rfl⟩ := List.mem_map.1 hy
    exact Nat.zero_le _)
  obtain ⟨xa, hxa⟩ : ∃ xa, x.a = xa := ⟨_, rfl⟩
  obtain ⟨u, hu⟩ : ∃ u, wrap64 (xa + 1) = u := ⟨_, rfl⟩
  have hu2 : IntKind.i64.wrap (xa + 1) = u := by rw [← hu, IntKind.wrap_i64]; unfold wrap64; omega
  rw [hxa] at hxw
  have hun : u ≠ xa := by rw [← hu]; unfold wrap64; omega
  have hb1 : wrap64 (u - 1) = xa := by rw [← hu]; unfold wrap64; omega
  have hb2 : IntKind.i64.wrap (u - 1) = xa := by rw [← hb1, IntKind.wrap_i64]; unfold wrap64; omega
  have HCL := Lib.hid hcl
  have HN := Lib.hid hN
  have HK := Lib.hid hk
  have HXK := Lib.hid hx
  have HXA := Lib.hid hxa
  have HUN := Lib.hid hun
  have HU := Lib.hid hu
  have HU2 := Lib.hid hu2
  have HB1 := Lib.hid hb1
  have HB2 := Lib.hid hb2
  have HMR := Lib.hid (show rightM (modC cl 100) = true by rw [← hcl, ← modOf_C]; exact made_right l)
  have hkm : (at8 : Int) % (N : Int) = (k : Int) := by rw [← hk]; omega
  clear hE hP hv hcl hN hk hx hxa hun hu hu2 hb1 hb2 hxw hwf
  go_enter Tryz.func5, Tryz.ntmps5
  go_wp2_with fail
  refine HX.out.mono ?_
  rintro e w1 ⟨rfl, c1⟩
  have C1 := Lib.hid c1
  clear c1
  go_wp2_with fail
  refine (made_any _ l w1 (ListAt.later (fun _ _ _ _ h _ => h) HV.out C1.out) (made_opsWf l)).mono ?_
  rintro e w2 ⟨⟨bt, bf, bm, bg, be, bd, cv, rfl, hA⟩, c2⟩
  obtain ⟨w3, hw3⟩ : ∃ w3, w2.alloc (.cells #[.slice (some ⟨bt, 0, none⟩) 1 1, .slice (some ⟨bf, 0, none⟩) 1 1, .slice (some ⟨bm, 0, none⟩) 1 1, .slice (some ⟨bg, 0, none⟩) 2 2, .slice (some ⟨be, 0, none⟩) 1 1, .int .i64 (-1), .slice (some ⟨bd, 0, none⟩) 1 1] 29) = w3 := ⟨_, rfl⟩
  have k3 : Below w2.heap.size w2 w3 := by rw [← hw3]; exact (Below.refl _ _).alloc (Nat.le_refl _) _
  have HA3 := Lib.hid (hA.later k3)
  have HBM := Lib.hid (show w3.heap[w2.heap.size]? = some (.cells #[.slice (some ⟨bt, 0, none⟩) 1 1, .slice (some ⟨bf, 0, none⟩) 1 1, .slice (some ⟨bm, 0, none⟩) 1 1, .slice (some ⟨bg, 0, none⟩) 2 2, .slice (some ⟨be, 0, none⟩) 1 1, .int .i64 (-1), .slice (some ⟨bd, 0, none⟩) 1 1] 29 (0, 0)) by rw [← hw3]; exact heap_alloc_new _ _)
  have B3 := Lib.hid (C1.out.trans ((c2.trans (k3.mono c2.size)).mono C1.out.size))
  have HMM := Lib.hid (show ModAt w3 (slV bt 1) (slV bf 1) (slV bm 1) (slV bg 2) (slV be 1) (-1) (slV bd 1) (modC cl 100) by rw [← HCL.out, ← modOf_C]; exact HA3.out.mod)
  unfold madeV modV slV
  clear hA c2 k3
  obtain ⟨m0, m1, m2, m3, m4, m5, m6⟩ := box_cells HBM.out
  go_wp2_with fail
  refine (copy_mod HMM.out (modC_room cl 100 (by rw [HN.out]; exact hN1) HLB.out)).mono ?_
  rintro e w4 ⟨at', af, ame, ag, ae, ad, rfl, ho4, c4⟩
  obtain ⟨agf, acapf, agc, acapc, agd, acapd, rfl, rfl, hA5⟩ := two_start (by rw [HN.out]; exact hN0) ho4 c4
  obtain ⟨agt, apt, agm, apm, agg, apg, age, ape, rfl, rfl, rfl, rfl⟩ := two_forms ho4
  obtain ⟨w5, hw5⟩ : ∃ w5, w4.alloc (.cells #[.slice (some ⟨agt, 0, none⟩) 1 apt, .slice (some ⟨agf, 0, none⟩) 1 acapf, .slice (some ⟨agm, 0, none⟩) 1 apm, .slice (some ⟨agg, 0, none⟩) 2 apg, .slice (some ⟨age, 0, none⟩) 1 ape, .int .i64 (-1), .slice (some ⟨agd, 0, none⟩) 1 acapd] 29) = w5 := ⟨_, rfl⟩
  have HA5 := Lib.hid (hA5 w5 hw5)
  have B5 := Lib.hid (show Below w3.heap.size w3 w5 from HA5.out.below)
  have HMM5 := Lib.hid (HMM.out.later B5.out)
  have HBM5 := Lib.hid ((B5.out.block _ (Array.getElem?_eq_some_iff.1 HBM.out).1).trans HBM.out)
  have hretA : modV (.slice (some ⟨agt, 0, none⟩) 1 apt) (.slice (some ⟨agf, 0, none⟩) 1 acapf) (.slice (some ⟨agm, 0, none⟩) 1 apm) (.slice (some ⟨agg, 0, none⟩) 2 apg) (.slice (some ⟨age, 0, none⟩) 1 ape) (modC cl 100).start (.slice (some ⟨agd, 0, none⟩) 1 acapd) = .agg #[.slice (some ⟨agt, 0, none⟩) 1 apt, .slice (some ⟨agf, 0, none⟩) 1 acapf, .slice (some ⟨agm, 0, none⟩) 1 apm, .slice (some ⟨agg, 0, none⟩) 2 apg, .slice (some ⟨age, 0, none⟩) 1 ape, .int .i64 (-1), .slice (some ⟨agd, 0, none⟩) 1 acapd] := rfl
  rw [hretA]
  clear hretA hA5 ho4 c4 m0 m1 m2 m3 m4 m5 m6 hw3
  obtain ⟨m0, m1, m2, m3, m4, m5, m6⟩ := box_cells HBM5.out
  go_wp2_with fail
  refine (copy_mod HMM5.out (modC_room cl 100 (by rw [HN.out]; exact hN1) HLB.out)).mono ?_
  rintro e w6 ⟨bt', bf', bme, bg', be', bd', rfl, ho6, c6⟩
  obtain ⟨bgf, bcapf, bgc, bcapc, bgd, bcapd, rfl, rfl, hB7⟩ := two_start (by rw [HN.out]; exact hN0) ho6 c6
  obtain ⟨bgt, bpt, bgm, bpm, bgg, bpg, bge, bpe, rfl, rfl, rfl, rfl⟩ := two_forms ho6
  obtain ⟨w7, hw7⟩ : ∃ w7, w6.alloc (.cells #[.slice (some ⟨bgt, 0, none⟩) 1 bpt, .slice (some ⟨bgf, 0, none⟩) 1 bcapf, .slice (some ⟨bgm, 0, none⟩) 1 bpm, .slice (some ⟨bgg, 0, none⟩) 2 bpg, .slice (some ⟨bge, 0, none⟩) 1 bpe, .int .i64 (-1), .slice (some ⟨bgd, 0, none⟩) 1 bcapd] 29) = w7 := ⟨_, rfl⟩
  have HB7 := Lib.hid (hB7 w7 hw7)
  have hretB : modV (.slice (some ⟨bgt, 0, none⟩) 1 bpt) (.slice (some ⟨bgf, 0, none⟩) 1 bcapf) (.slice (some ⟨bgm, 0, none⟩) 1 bpm) (.slice (some ⟨bgg, 0, none⟩) 2 bpg) (.slice (some ⟨bge, 0, none⟩) 1 bpe) (modC cl 100).start (.slice (some ⟨bgd, 0, none⟩) 1 bcapd) = .agg #[.slice (some ⟨bgt, 0, none⟩) 1 bpt, .slice (some ⟨bgf, 0, none⟩) 1 bcapf, .slice (some ⟨bgm, 0, none⟩) 1 bpm, .slice (some ⟨bgg, 0, none⟩) 2 bpg, .slice (some ⟨bge, 0, none⟩) 1 bpe, .int .i64 (-1), .slice (some ⟨bgd, 0, none⟩) 1 bcapd] := rfl
  rw [hretB]
  obtain ⟨b0, b1, b2, b3, b4, b5, b6⟩ := box_cells HB7.out.box
  obtain ⟨n0, n1, n2, n3, n4⟩ := HB7.out.cells HXK.out
  rw [HN.out] at n0
  clear hretB hB7 ho6 c6 m0 m1 m2 m3 m4 m5 m6 hw5
  have hN3 : ((N : Int) == 0) = false := by simp; omega
  have hN4 : (N == 0) = false := by simp; omega
  go_upto_region 7 with fail
  clear hw7
  go_wp2_with fail
  rw [hkm]
  have hkN2 : (k : Int) < (N : Int) := by omega
  have hs1 := HU.out
  have hs2 := HU2.out
  have hxa := HXA.out
  rw [hxa] at n1
  go_still_tail 18, (by kernel_rfl)
  change wpList _ _ _ _ _ w7.drew
  go_upto_region 11 with fail
  have HLU := Lib.hid (show ∀ y ∈ cl.set k { x with a := u }, y.labels.length ≤ 1000000000 from fun y hy => by
    rcases List.mem_or_eq_of_mem_set hy with h | h
    · exact HLB.out y h
    · rw [h]
      exact HLB.out x (List.mem_of_getElem? HXK.out))
  obtain ⟨w8, hw8⟩ : ∃ w8, (w7.setCell ⟨bgc, k * 4 + 1, none⟩ (.int .i64 u)).drew = w8 := ⟨_, rfl⟩
  have HB8 := Lib.hid (show TwoAt w5 w6.heap.size bgf bcapf bgc bcapc bgd bcapd (.slice (some ⟨bgt, 0, none⟩) 1 bpt) (.slice (some ⟨bgm, 0, none⟩) 1 bpm) (.slice (some ⟨bgg, 0, none⟩) 2 bpg) (.slice (some ⟨bge, 0, none⟩) 1 bpe) (cl.set k { x with a := u }) 100 w8 by rw [← hw8]; exact (HB7.out.turn HXK.out u).later (Below.refl _ _).drew)
  rw [hw8]
  clear hw8
  have HA8 := Lib.hid (HA5.out.later HB8.out.below)
  have HM8 := Lib.hid (HMM5.out.later HB8.out.below)
  have HBM8 := Lib.hid ((HB8.out.below.block _ (Array.getElem?_eq_some_iff.1 HBM5.out).1).trans HBM5.out)
  clear b0 b1 b2 b3 b4 b5 b6 n0 n1 n2 n3 n4
  obtain ⟨a0, a1, a2, a3, a4, a5, a6⟩ := box_cells HA8.out.box
  obtain ⟨m0, m1, m2, m3, m4, m5, m6⟩ := box_cells HBM8.out
  go_wp2_with fail
  refine (same_callC (r := true) (HA8.out.own.mod (modC_room cl 100 (by rw [HN.out]; exact hN1) HLB.out)) HM8.out (modC_room cl 100 (by rw [HN.out]; exact hN1) HLB.out).labs (modC_room cl 100 (by rw [HN.out]; exact hN1) HLB.out).labs (sameM_self _)).mono ?_
  rintro e w9 ⟨rfl, c9⟩
  have HB9 := Lib.hid (HB8.out.later c9)
  clear c9 a0 a1 a2 a3 a4 a5 a6 m0 m1 m2 m3 m4 m5 m6
  have HA9 := Lib.hid (HA5.out.later HB9.out.below)
  have HM9 := Lib.hid (HMM5.out.later HB9.out.below)
  have HBM9 := Lib.hid ((HB9.out.below.block _ (Array.getElem?_eq_some_iff.1 HBM5.out).1).trans HBM5.out)
  obtain ⟨b0, b1, b2, b3, b4, b5, b6⟩ := box_cells HB9.out.box
  obtain ⟨m0, m1, m2, m3, m4, m5, m6⟩ := box_cells HBM9.out
  go_wp2_with fail
  refine (same_callC (r := false) (HB9.out.own.mod (modC_room (cl.set k { x with a := u }) 100 (by rw [List.length_set, HN.out]; exact hN1) HLU.out)) HM9.out (modC_room (cl.set k { x with a := u }) 100 (by rw [List.length_set, HN.out]; exact hN1) HLU.out).labs (modC_room cl 100 (by rw [HN.out]; exact hN1) HLB.out).labs (modC_ne (.inl (set_ne HXK.out (by rw [HXA.out]; exact HUN.out))))).mono ?_
  rintro e w10 ⟨rfl, c10⟩
  have HB10 := Lib.hid (HB9.out.later c10)
  clear c10 b0 b1 b2 b3 b4 b5 b6 m0 m1 m2 m3 m4 m5 m6
  obtain ⟨b0, b1, b2, b3, b4, b5, b6⟩ := box_cells HB10.out.box
  have HXU := Lib.hid (show (cl.set k { x with a := u })[k]? = some { x with a := u } from List.getElem?_set_self (by have := HN.out; omega))
  obtain ⟨n0, n1, n2, n3, n4⟩ := HB10.out.cells HXU.out
  rw [List.length_set, HN.out] at n0
  have ht1 := HB1.out
  have ht2 := HB2.out
  clear hs1 hs2
  go_upto_region 13 with fail
  go_still_tail 18, (by kernel_rfl)
  change wpList _ _ _ _ _ w10.drew
  go_upto_region 14 with fail
  obtain ⟨w11, hw11⟩ : ∃ w11, (w10.setCell ⟨bgc, k * 4 + 1, none⟩ (.int .i64 xa)).drew = w11 := ⟨_, rfl⟩
  have HB11 := Lib.hid (show TwoAt w5 w6.heap.size bgf bcapf bgc bcapc bgd bcapd (.slice (some ⟨bgt, 0, none⟩) 1 bpt) (.slice (some ⟨bgm, 0, none⟩) 1 bpm) (.slice (some ⟨bgg, 0, none⟩) 2 bpg) (.slice (some ⟨bge, 0, none⟩) 1 bpe) cl 100 w11 by have h1 := (HB10.out.turn HXU.out xa).later (Below.refl _ _).drew; rw [set_back HXK.out HXA.out] at h1; rw [← hw11]; exact h1)
  rw [hw11]
  clear hw11
  have HA11 := Lib.hid (HA5.out.later HB11.out.below)
  have HM11 := Lib.hid (HMM5.out.later HB11.out.below)
  have HBM11 := Lib.hid ((HB11.out.below.block _ (Array.getElem?_eq_some_iff.1 HBM5.out).1).trans HBM5.out)
  clear b0 b1 b2 b3 b4 b5 b6 n0 n1 n2 n3 n4 ht1 ht2
  obtain ⟨b0, b1, b2, b3, b4, b5, b6⟩ := box_cells HB11.out.box
  obtain ⟨m0, m1, m2, m3, m4, m5, m6⟩ := box_cells HBM11.out
  go_wp2_with fail
  refine (same_callC (r := true) (HB11.out.own.mod (modC_room cl 100 (by rw [HN.out]; exact hN1) HLB.out)) HM11.out (modC_room cl 100 (by rw [HN.out]; exact hN1) HLB.out).labs (modC_room cl 100 (by rw [HN.out]; exact hN1) HLB.out).labs (sameM_self _)).mono ?_
  rintro e w12 ⟨rfl, c12⟩
  have HB12 := Lib.hid (HB11.out.later c12)
  clear c12 b0 b1 b2 b3 b4 b5 b6 m0 m1 m2 m3 m4 m5 m6
  obtain ⟨b0, b1, b2, b3, b4, b5, b6⟩ := box_cells HB12.out.box
  obtain ⟨n0, n1, n2, n3, n4⟩ := HB12.out.cells HXK.out
  go_upto_region 16 with fail
  obtain ⟨w13, hw13⟩ : ∃ w13, w12.setCell ⟨bgd, 0, none⟩ (.int .i64 7) = w13 := ⟨_, rfl⟩
  have HB13 := Lib.hid (show TwoAt w5 w6.heap.size bgf bcapf bgc bcapc bgd bcapd (.slice (some ⟨bgt, 0, none⟩) 1 bpt) (.slice (some ⟨bgm, 0, none⟩) 1 bpm) (.slice (some ⟨bgg, 0, none⟩) 2 bpg) (.slice (some ⟨bge, 0, none⟩) 1 bpe) cl 7 w13 by rw [← hw13]; exact HB12.out.move 7)
  rw [hw13]
  clear hw13
  have HA13 := Lib.hid (HA5.out.later HB13.out.below)
  have HM13 := Lib.hid (HMM5.out.later HB13.out.below)
  have HBM13 := Lib.hid ((HB13.out.below.block _ (Array.getElem?_eq_some_iff.1 HBM5.out).1).trans HBM5.out)
  clear b0 b1 b2 b3 b4 b5 b6 n0 n1 n2 n3 n4
  obtain ⟨b0, b1, b2, b3, b4, b5, b6⟩ := box_cells HB13.out.box
  obtain ⟨a0, a1, a2, a3, a4, a5, a6⟩ := box_cells HA13.out.box
  go_wp2_with fail
  refine (same_callC (r := false) (HB13.out.own.mod (modC_room cl 7 (by rw [HN.out]; exact hN1) HLB.out)) (HA13.out.own.mod (modC_room cl 100 (by rw [HN.out]; exact hN1) HLB.out)) (modC_room cl 7 (by rw [HN.out]; exact hN1) HLB.out).labs (modC_room cl 100 (by rw [HN.out]; exact hN1) HLB.out).labs (modC_ne (.inr (by decide)))).mono ?_
  rintro e w14 ⟨rfl, c14⟩
  have HB14 := Lib.hid (HB13.out.later c14)
  clear c14 b0 b1 b2 b3 b4 b5 b6 a0 a1 a2 a3 a4 a5 a6
  have HA14 := Lib.hid (HA5.out.later HB14.out.below)
  have HM14 := Lib.hid (HMM5.out.later HB14.out.below)
  have HBM14 := Lib.hid ((HB14.out.below.block _ (Array.getElem?_eq_some_iff.1 HBM5.out).1).trans HBM5.out)
  obtain ⟨m0, m1, m2, m3, m4, m5, m6⟩ := box_cells HBM14.out
  have W14 := Lib.hid (B3.out.trans ((B5.out.trans (HB14.out.below.mono B5.out.size)).mono B3.out.size))
  have hright := rightM_any _ _ _ _ _ _ _ _ w14 (HE.out.later W14.out) HM14.out
  rw [HMR.out] at hright
  have HRT := Lib.hid hright
  clear hright
  go_wp2_with fail
  refine HRT.out.mono ?_
  rintro e w15 ⟨rfl, c15⟩
  have W15 := Lib.hid (W14.out.trans (c15.mono W14.out.size))
  clear c15 m0 m1 m2 m3 m4 m5 m6
  go_wp2_with fail
  go_ret
  exact ⟨rfl, W15.out⟩
end Go.Proofs.YthkdegmnnbepdaaGreatDoor.Mod
