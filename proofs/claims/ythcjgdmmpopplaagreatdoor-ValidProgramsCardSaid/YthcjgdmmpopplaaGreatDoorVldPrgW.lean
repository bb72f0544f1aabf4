/-
  The law of programs: the walk. No condition beyond what each theorem names.
-/
import Derived.Test.YthcjgdmmpopplaaGreatDoorVldTurn
namespace Go.Proofs.YthcjgdmmpopplaaGreatDoor.Vld
open Go.RowKit Go.Maps Go.Lib Go.Proofs.YthcjgdmmpopplaaGreatDoor.Op Go.Proofs.YthcjgdmmpopplaaGreatDoor.Mod Go.Proofs.YthcjgdmmpopplaaGreatDoor.Pg
set_option linter.unusedVariables false
theorem one_new {w V : World} {o1 : Obj} (h : (w.alloc o1) = V) : V.heap[w.heap.size]? = some o1 ∧ Below w.heap.size w V ∧ V.heap.size = w.heap.size + 1 := by
  subst h
  exact ⟨heap_alloc_new w o1, below1 _ _, by simp⟩
set_option maxRecDepth 100000 in
set_option maxHeartbeats 4000000 in
theorem programs_walk (l : List Step) (w : World) (hE : MEnv w) (v : Value) (hv : StepsAt w v l) : Calls Tryz.prog 3 #[v] w fun e w' => e = .returned (.bool true) ∧ Below w.heap.size w w' := by
  obtain ⟨la, lc, rfl, -, -⟩ := hv.form
  have HE := Lib.hid hE
  have HX := Lib.hid (examples07 w hE)
  have HV := Lib.hid hv
  clear hE hv
  obtain ⟨K, hK⟩ : ∃ K, (madeP l).code = K := ⟨_, rfl⟩
  obtain ⟨c, hc, t1, t2, t3⟩ := turn_laws l
  have HF1 := Lib.hid (made_module l)
  have HF2 := Lib.hid (made_func l)
  rw [hK] at hc t1 t2 t3 HF1 HF2
  have HLn := Lib.hid (made_len l)
  rw [hK] at HLn
  have HM := fun W h => Lib.hid (made_any (.slice la l.length lc) l W h (made_opsWf l))
  rw [hK] at HM
  have HC := Lib.hid hc
  have T1 := Lib.hid t1
  have T2 := Lib.hid t2
  have T3 := Lib.hid t3
  clear hK hc t1 t2 t3
  go_enter Tryz.func3, Tryz.ntmps3
  go_wp2_with fail
  refine HX.out.mono ?_
  rintro e w1 ⟨rfl, c1⟩
  have C1 := Lib.hid c1
  have HV1 := Lib.hid (ListAt.later (fun _ _ _ _ h _ => h) HV.out c1)
  clear c1
  go_wp2_with fail
  refine (HM _ HV1.out).out.mono ?_
  rintro e w2 ⟨⟨bt, bf, bm, bg, be, bd, cv, rfl, hA⟩, c2⟩
  have C2 := Lib.hid (C1.out.trans (c2.mono C1.out.size))
  have hKc : K.length = c.length + 1 := by rw [HC.out, List.length_append]; rfl
  have hcl : c.length ≤ 100000 := by have := HLn.out; omega
  obtain ⟨g, cap, rfl, hle⟩ : ∃ g cap, cv = .slice (some ⟨g, 0, none⟩) (c.length + 1) cap ∧ c.length + 1 ≤ cap := by
    rcases hA.hc.2 with ⟨h1, h2⟩ | ⟨g, cp, cur, h1, _, _, h2, _⟩
    · rw [hKc] at h2; cases h2
    · rw [hKc] at h1 h2; exact ⟨g, cp, h1, h2⟩
  have HA := Lib.hid hA
  clear hA c2 HM
  unfold madeV modV slV
  go_upto_region 5 with fail
  obtain ⟨W3, hW3⟩ : ∃ W3, (w2.alloc (.cells #[.slice (some ⟨bt, 0, none⟩) 1 1, .slice (some ⟨bf, 0, none⟩) 1 1, .slice (some ⟨bm, 0, none⟩) 1 1, .slice (some ⟨bg, 0, none⟩) 2 2, .slice (some ⟨be, 0, none⟩) 1 1, .int .i64 (-1), .slice (some ⟨bd, 0, none⟩) 1 1] 31)) = W3 := ⟨_, rfl⟩
  rw [hW3]
  obtain ⟨x1, b3, -⟩ := one_new hW3
  have X1 := Lib.hid x1
  have C3 := Lib.hid (C2.out.trans (b3.mono C2.out.size))
  have HA3 := Lib.hid (HA.out.later b3)
  have m1 := box_at x1 1 _ rfl
  have f0 := box_at HA3.out.hf 0 _ rfl
  have f1 := box_at HA3.out.hf 1 _ rfl
  have f2 := box_at HA3.out.hf 2 _ rfl
  clear hW3 x1 b3 HA
  have e0 : decide ((c.length : Int) < 0) = false := decide_eq_false (by omega)
  go_upto_region 9 with fail
  obtain ⟨W5, hW5⟩ : ∃ W, (W3.alloc (.cells #[.int .i64 0, .string ⟨#[127, 126]⟩, .slice (some ⟨g, 0, none⟩) (c.length + 1) cap] 35)) = W := ⟨_, rfl⟩
  rw [hW5]
  obtain ⟨x5, b5, -⟩ := one_new hW5
  have X5 := Lib.hid x5
  have C5 := Lib.hid (C3.out.trans (b5.mono C3.out.size))
  have HA5 := Lib.hid (HA3.out.later b5)
  have Y1 := Lib.hid (box_later b5 X1.out)
  have COD0 := Lib.hid (show Cod W5 w1.heap.size (.slice (some ⟨g, 0, none⟩) (c.length + 1) cap) (c ++ [⟨11, 0, 0⟩]) from by
    have h := HA5.out.hc
    rw [HC.out] at h
    exact ⟨by rw [List.length_map]; exact h, fun r hr => by obtain ⟨y, _, rfl⟩ := List.mem_map.1 hr; rfl⟩)
  clear hW5 x5 b5 m1 f0 f1 f2 e0 HA3 C3 X1
  have hsl : ∀ W : World, (Instr.slice 33 (.slice (some ⟨g, 0, none⟩) (c.length + 1) cap) none (some (.int .i64 (c.length : Int))) none).run Tryz.prog W = .ok (.slice (some ⟨g, 0, none⟩) c.length cap) W := fun W => cut_code _ _ _ _ (by omega) W
  have hs1 : c.length ≤ cap := by omega
  have N0 := Lib.hid X5.out
  have q0 := box_at X5.out 0 _ rfl
  have q1 := box_at X5.out 1 _ rfl
  have q2 := box_at X5.out 2 _ rfl
  go_upto_region 10 with fail
  have qa : (W5.alloc (.cells #[.int .i64 0, .string ⟨#[127, 126]⟩, .slice (some ⟨g, 0, none⟩) (c.length + 1) cap] 35)).cell? ⟨W3.heap.size, 2, none⟩ = some (.slice (some ⟨g, 0, none⟩) (c.length + 1) cap) := cell_later (below1 W5 _) q2
  go_wp2_with (at_builtin; refine wpList_part (c := c) (d := [⟨11, 0, 0⟩]) rfl _ _ rfl rfl rfl (COD0.out.later (below1 W5 _)) (show c.length + 1 ≤ 1000000000 by omega) ?_)
  intro a1 p1 wa1 o1 k1
  have O1 := Lib.hid (show Cod wa1 (W5.alloc (.cells #[.int .i64 0, .string ⟨#[127, 126]⟩, .slice (some ⟨g, 0, none⟩) (c.length + 1) cap] 35)).heap.size (.slice a1 c.length p1) c by simpa using o1)
  have K1 := Lib.hid (show Below (W5.alloc (.cells #[.int .i64 0, .string ⟨#[127, 126]⟩, .slice (some ⟨g, 0, none⟩) (c.length + 1) cap] 35)).heap.size (W5.alloc (.cells #[.int .i64 0, .string ⟨#[127, 126]⟩, .slice (some ⟨g, 0, none⟩) (c.length + 1) cap] 35)) wa1 by simpa using k1)
  clear o1 k1
  have qb := box_at (box_later K1.out (heap_alloc_new W5 (.cells #[.int .i64 0, .string ⟨#[127, 126]⟩, .slice (some ⟨g, 0, none⟩) (c.length + 1) cap] 35))) 2 _ rfl
  go_wp2_with (at_builtin; refine wpList_whole rfl _ _ rfl rfl (O1.out.later (below1 wa1 _)) rfl (cod_block (heap_alloc_new wa1 _) moreM 2 rfl rfl (by decide)) (show c.length + 2 ≤ 1000000000 by omega) (Nat.le_trans K1.out.size (below1 wa1 _).size) ?_)
  intro a2 p2 wa2 o2 k2 _
  obtain ⟨z, hz⟩ := turn_world O1.out K1.out (show Cod wa2 (W5.alloc (.cells #[.int .i64 0, .string ⟨#[127, 126]⟩, .slice (some ⟨g, 0, none⟩) (c.length + 1) cap] 35)).heap.size (.slice a2 (c.length + 2) p2) (c ++ moreM) by rw [show (W5.alloc (.cells #[.int .i64 0, .string ⟨#[127, 126]⟩, .slice (some ⟨g, 0, none⟩) (c.length + 1) cap] 35)).heap.size = W5.heap.size + 1 by simp]; exact o2) k2
  have zf : ∀ j, wa2.frozen? ⟨W5.heap.size, j, none⟩ = false := fun j => frozen_of_row wa2 _ j _ _ z
  have z2 := box_at z 2 _ rfl
  clear o2 k2 qb qa
  go_upto_region 11 with fail
  obtain ⟨W6, hWB⟩ : ∃ W, wa2.setCell ⟨W5.heap.size, 2, none⟩ (.slice a2 (c.length + moreM.length) p2) = W := ⟨_, rfl⟩
  rw [hWB]
  obtain ⟨xb, cb, bb⟩ := hz W6 hWB
  have XB0 := Lib.hid xb
  have CB0 := Lib.hid cb
  have BB0 := Lib.hid bb
  obtain ⟨v0, hv0⟩ : ∃ v, Value.slice a2 (c.length + moreM.length) p2 = v := ⟨_, rfl⟩
  have COD1 := Lib.hid (COD0.out.later bb)
  have N1 := Lib.hid (box_later bb N0.out)
  clear hWB hz xb cb bb zf z2 z q0 q1 q2 O1 K1
  obtain ⟨q0, q1, q2⟩ := three_at N1.out
  go_upto_region 12 with fail
  have qa : (W6.alloc (.cells #[.int .i64 0, .string ⟨#[127, 126]⟩, .slice (some ⟨g, 0, none⟩) (c.length + 1) cap] 35)).cell? ⟨W3.heap.size, 2, none⟩ = some (.slice (some ⟨g, 0, none⟩) (c.length + 1) cap) := cell_later (below1 W6 _) q2
  go_wp2_with (at_builtin; refine wpList_part (c := c) (d := [⟨11, 0, 0⟩]) rfl _ _ rfl rfl rfl (COD1.out.later (below1 W6 _)) (show c.length + 1 ≤ 1000000000 by omega) ?_)
  intro a1 p1 wa1 o1 k1
  have O1 := Lib.hid (show Cod wa1 (W6.alloc (.cells #[.int .i64 0, .string ⟨#[127, 126]⟩, .slice (some ⟨g, 0, none⟩) (c.length + 1) cap] 35)).heap.size (.slice a1 c.length p1) c by simpa using o1)
  have K1 := Lib.hid (show Below (W6.alloc (.cells #[.int .i64 0, .string ⟨#[127, 126]⟩, .slice (some ⟨g, 0, none⟩) (c.length + 1) cap] 35)).heap.size (W6.alloc (.cells #[.int .i64 0, .string ⟨#[127, 126]⟩, .slice (some ⟨g, 0, none⟩) (c.length + 1) cap] 35)) wa1 by simpa using k1)
  clear o1 k1
  have qb := box_at (box_later K1.out (heap_alloc_new W6 (.cells #[.int .i64 0, .string ⟨#[127, 126]⟩, .slice (some ⟨g, 0, none⟩) (c.length + 1) cap] 35))) 2 _ rfl
  go_wp2_with (at_builtin; refine wpList_whole rfl _ _ rfl rfl (O1.out.later (below1 wa1 _)) rfl (cod_block (heap_alloc_new wa1 _) lessM 2 rfl rfl (by decide)) (show c.length + 2 ≤ 1000000000 by omega) (Nat.le_trans K1.out.size (below1 wa1 _).size) ?_)
  intro a2 p2 wa2 o2 k2 _
  obtain ⟨z, hz⟩ := turn_world O1.out K1.out (show Cod wa2 (W6.alloc (.cells #[.int .i64 0, .string ⟨#[127, 126]⟩, .slice (some ⟨g, 0, none⟩) (c.length + 1) cap] 35)).heap.size (.slice a2 (c.length + 2) p2) (c ++ lessM) by rw [show (W6.alloc (.cells #[.int .i64 0, .string ⟨#[127, 126]⟩, .slice (some ⟨g, 0, none⟩) (c.length + 1) cap] 35)).heap.size = W6.heap.size + 1 by simp]; exact o2) k2
  have zf : ∀ j, wa2.frozen? ⟨W6.heap.size, j, none⟩ = false := fun j => frozen_of_row wa2 _ j _ _ z
  have z2 := box_at z 2 _ rfl
  clear o2 k2 qb qa
  go_upto_region 13 with fail
  obtain ⟨W7, hWB⟩ : ∃ W, wa2.setCell ⟨W6.heap.size, 2, none⟩ (.slice a2 (c.length + lessM.length) p2) = W := ⟨_, rfl⟩
  rw [hWB]
  obtain ⟨xb, cb, bb⟩ := hz W7 hWB
  have XB1 := Lib.hid xb
  have CB1 := Lib.hid cb
  have BB1 := Lib.hid bb
  obtain ⟨v1, hv1⟩ : ∃ v, Value.slice a2 (c.length + lessM.length) p2 = v := ⟨_, rfl⟩
  have COD2 := Lib.hid (COD1.out.later bb)
  have N2 := Lib.hid (box_later bb N1.out)
  clear hWB hz xb cb bb zf z2 z q0 q1 q2 O1 K1
  obtain ⟨q0, q1, q2⟩ := three_at N2.out
  go_upto_region 14 with fail
  have qa : (W7.alloc (.cells #[.int .i64 0, .string ⟨#[127, 126]⟩, .slice (some ⟨g, 0, none⟩) (c.length + 1) cap] 35)).cell? ⟨W3.heap.size, 2, none⟩ = some (.slice (some ⟨g, 0, none⟩) (c.length + 1) cap) := cell_later (below1 W7 _) q2
  go_wp2_with (at_builtin; refine wpList_part (c := c) (d := [⟨11, 0, 0⟩]) rfl _ _ rfl rfl rfl (COD2.out.later (below1 W7 _)) (show c.length + 1 ≤ 1000000000 by omega) ?_)
  intro a1 p1 wa1 o1 k1
  have O1 := Lib.hid (show Cod wa1 (W7.alloc (.cells #[.int .i64 0, .string ⟨#[127, 126]⟩, .slice (some ⟨g, 0, none⟩) (c.length + 1) cap] 35)).heap.size (.slice a1 c.length p1) c by simpa using o1)
  have K1 := Lib.hid (show Below (W7.alloc (.cells #[.int .i64 0, .string ⟨#[127, 126]⟩, .slice (some ⟨g, 0, none⟩) (c.length + 1) cap] 35)).heap.size (W7.alloc (.cells #[.int .i64 0, .string ⟨#[127, 126]⟩, .slice (some ⟨g, 0, none⟩) (c.length + 1) cap] 35)) wa1 by simpa using k1)
  clear o1 k1
  have qb := box_at (box_later K1.out (heap_alloc_new W7 (.cells #[.int .i64 0, .string ⟨#[127, 126]⟩, .slice (some ⟨g, 0, none⟩) (c.length + 1) cap] 35))) 2 _ rfl
  go_wp2_with (at_builtin; refine wpList_whole rfl _ _ rfl rfl (O1.out.later (below1 wa1 _)) rfl (cod_block (heap_alloc_new wa1 _) deadM 5 rfl rfl (by decide)) (show c.length + 5 ≤ 1000000000 by omega) (Nat.le_trans K1.out.size (below1 wa1 _).size) ?_)
  intro a2 p2 wa2 o2 k2 _
  obtain ⟨z, hz⟩ := turn_world O1.out K1.out (show Cod wa2 (W7.alloc (.cells #[.int .i64 0, .string ⟨#[127, 126]⟩, .slice (some ⟨g, 0, none⟩) (c.length + 1) cap] 35)).heap.size (.slice a2 (c.length + 5) p2) (c ++ deadM) by rw [show (W7.alloc (.cells #[.int .i64 0, .string ⟨#[127, 126]⟩, .slice (some ⟨g, 0, none⟩) (c.length + 1) cap] 35)).heap.size = W7.heap.size + 1 by simp]; exact o2) k2
  have zf : ∀ j, wa2.frozen? ⟨W7.heap.size, j, none⟩ = false := fun j => frozen_of_row wa2 _ j _ _ z
  have z2 := box_at z 2 _ rfl
  clear o2 k2 qb qa
  go_upto_region 15 with fail
  obtain ⟨W8, hWB⟩ : ∃ W, wa2.setCell ⟨W7.heap.size, 2, none⟩ (.slice a2 (c.length + deadM.length) p2) = W := ⟨_, rfl⟩
  rw [hWB]
  obtain ⟨xb, cb, bb⟩ := hz W8 hWB
  have XB2 := Lib.hid xb
  have CB2 := Lib.hid cb
  have BB2 := Lib.hid bb
  obtain ⟨v2, hv2⟩ : ∃ v, Value.slice a2 (c.length + deadM.length) p2 = v := ⟨_, rfl⟩
  have COD3 := Lib.hid (COD2.out.later bb)
  have N3 := Lib.hid (box_later bb N2.out)
  clear hWB hz xb cb bb zf z2 z q0 q1 q2 O1 K1
  have B68 := Lib.hid (BB1.out.trans (BB2.out.mono BB1.out.size))
  have B58 := Lib.hid (BB0.out.trans (B68.out.mono BB0.out.size))
  have HWf := Lib.hid (show ∀ x ∈ c, (Lit.int .i64 x.op).wf = true from fun x hx => HA5.out.wf x (by rw [HC.out]; exact List.mem_append_left _ hx))
  have D0 := Lib.hid (CB0.out.at (show (c ++ moreM).length ≤ 1000000000 by rw [List.length_append]; show c.length + 2 ≤ _; omega) (fun x hx => (List.mem_append.1 hx).elim (fun h => HWf.out x h) (fun h => (by decide : ∀ x ∈ moreM, (Lit.int .i64 x.op).wf = true) x h)))
  have D1 := Lib.hid (CB1.out.at (show (c ++ lessM).length ≤ 1000000000 by rw [List.length_append]; show c.length + 2 ≤ _; omega) (fun x hx => (List.mem_append.1 hx).elim (fun h => HWf.out x h) (fun h => (by decide : ∀ x ∈ lessM, (Lit.int .i64 x.op).wf = true) x h)))
  have D2 := Lib.hid (CB2.out.at (show (c ++ deadM).length ≤ 1000000000 by rw [List.length_append]; show c.length + 5 ≤ _; omega) (fun x hx => (List.mem_append.1 hx).elim (fun h => HWf.out x h) (fun h => (by decide : ∀ x ∈ deadM, (Lit.int .i64 x.op).wf = true) x h)))
  have P0 := Lib.hid (show PrgAt W8 w1.heap.size w2.heap.size W3.heap.size W5.heap.size W6.heap.size W7.heap.size bt bf bm bg be bd _ _ _ _ K (c ++ moreM) (c ++ lessM) (c ++ deadM) from
    ⟨box_later B58.out Y1.out, box_later B58.out X5.out, box_later B68.out XB0.out, box_later BB2.out XB1.out, XB2.out, HA5.out.later B58.out, by rw [HC.out]; exact COD3.out.at (show (c ++ [(⟨11, 0, 0⟩ : Ins)]).length ≤ 1000000000 by rw [List.length_append]; show c.length + 1 ≤ _; omega) (fun x hx => (List.mem_append.1 hx).elim (fun h => HWf.out x h) (fun h => (by decide : ∀ x ∈ ([⟨11, 0, 0⟩] : List Ins), (Lit.int .i64 x.op).wf = true) x h)), ListAt.later lasts_ins D0.out B68.out, ListAt.later lasts_ins D1.out BB2.out, D2.out⟩)
  have G0 := Lib.hid (C5.out.trans (B58.out.mono C5.out.size))
  clear XB0 XB1 XB2 CB0 CB1 CB2 D0 D1 D2 N1 N2 N3 COD0 COD1 COD2 COD3 BB0 BB1 BB2 B68 B58 HA5 X5 Y1 N0 C5 hsl hs1
  obtain ⟨m0, m1, m2, m3, m4, m5, m6⟩ := seven_at P0.out.mod
  go_wp2_with fail
  refine (module_any _ _ _ _ _ _ _ (modOf K) _ P0.out.made.mod (HE.out.later G0.out) (fun x hx => by obtain rfl := List.mem_singleton.1 hx; show (K.map toL).length ≤ _; rw [List.length_map]; have := HLn.out; omega)).mono ?_
  rw [HF1.out]
  rintro e V1 ⟨rfl, cV⟩
  have P1 := Lib.hid (P0.out.later cV)
  have G1 := Lib.hid (G0.out.trans (cV.mono G0.out.size))
  clear cV m0 m1 m2 m3 m4 m5 m6 P0
  obtain ⟨m0, m1, m2, m3, m4, m5, m6⟩ := seven_at P1.out.mod
  obtain ⟨r0, r1, r2⟩ := three_at P1.out.f5
  go_wp2_with fail
  refine (func_any _ _ _ _ _ _ _ (modOf K) _ P1.out.made.mod (HE.out.later G1.out) (fnOf (K.map tL)) _ P1.out.d5 (show 2 ≤ 9223372036854775807 by decide) (by show (K.map tL).length ≤ _; rw [List.length_map]; have := HLn.out; omega)).mono ?_
  rw [HF2.out]
  rintro e V2 ⟨rfl, cV⟩
  have P2 := Lib.hid (P1.out.later cV)
  have G2 := Lib.hid (G1.out.trans (cV.mono G1.out.size))
  clear cV m0 m1 m2 m3 m4 m5 m6 r0 r1 r2 P1
  obtain ⟨m0, m1, m2, m3, m4, m5, m6⟩ := seven_at P2.out.mod
  obtain ⟨r0, r1, r2⟩ := three_at P2.out.f6
  go_wp2_with fail
  refine (func_any _ _ _ _ _ _ _ (modOf K) _ P2.out.made.mod (HE.out.later G2.out) (fnOf ((c ++ moreM).map tL)) _ P2.out.d6 (show 2 ≤ 9223372036854775807 by decide) (by show ((c ++ moreM).map tL).length ≤ _; rw [List.length_map, List.length_append]; show c.length + 2 ≤ _; omega)).mono ?_
  rw [T1.out]
  rintro e V3 ⟨rfl, cV⟩
  have P3 := Lib.hid (P2.out.later cV)
  have G3 := Lib.hid (G2.out.trans (cV.mono G2.out.size))
  clear cV m0 m1 m2 m3 m4 m5 m6 r0 r1 r2 P2
  obtain ⟨m0, m1, m2, m3, m4, m5, m6⟩ := seven_at P3.out.mod
  obtain ⟨r0, r1, r2⟩ := three_at P3.out.f7
  go_wp2_with fail
  refine (func_any _ _ _ _ _ _ _ (modOf K) _ P3.out.made.mod (HE.out.later G3.out) (fnOf ((c ++ lessM).map tL)) _ P3.out.d7 (show 2 ≤ 9223372036854775807 by decide) (by show ((c ++ lessM).map tL).length ≤ _; rw [List.length_map, List.length_append]; show c.length + 2 ≤ _; omega)).mono ?_
  rw [T2.out]
  rintro e V4 ⟨rfl, cV⟩
  have P4 := Lib.hid (P3.out.later cV)
  have G4 := Lib.hid (G3.out.trans (cV.mono G3.out.size))
  clear cV m0 m1 m2 m3 m4 m5 m6 r0 r1 r2 P3
  obtain ⟨m0, m1, m2, m3, m4, m5, m6⟩ := seven_at P4.out.mod
  obtain ⟨r0, r1, r2⟩ := three_at P4.out.f8
  go_wp2_with fail
  refine (func_any _ _ _ _ _ _ _ (modOf K) _ P4.out.made.mod (HE.out.later G4.out) (fnOf ((c ++ deadM).map tL)) _ P4.out.d8 (show 2 ≤ 9223372036854775807 by decide) (by show ((c ++ deadM).map tL).length ≤ _; rw [List.length_map, List.length_append]; show c.length + 5 ≤ _; omega)).mono ?_
  rw [T3.out]
  rintro e V5 ⟨rfl, cV⟩
  have P5 := Lib.hid (P4.out.later cV)
  have G5 := Lib.hid (G4.out.trans (cV.mono G4.out.size))
  clear cV m0 m1 m2 m3 m4 m5 m6 r0 r1 r2 P4
  go_wp2_with fail
  go_ret
  exact ⟨rfl, G5.out⟩
end Go.Proofs.YthcjgdmmpopplaaGreatDoor.Vld
