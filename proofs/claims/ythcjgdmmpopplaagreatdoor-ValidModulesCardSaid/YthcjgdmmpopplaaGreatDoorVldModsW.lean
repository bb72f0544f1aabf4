/-
  The law of a module's other parts: the walk. No condition beyond what each theorem names.
-/
import Derived.Test.YthcjgdmmpopplaaGreatDoorVldMk
namespace Go.Proofs.YthcjgdmmpopplaaGreatDoor.Vld
open Go.RowKit Go.Maps Go.Lib Go.Proofs.YthcjgdmmpopplaaGreatDoor.Op Go.Proofs.YthcjgdmmpopplaaGreatDoor.Mod Go.Proofs.YthcjgdmmpopplaaGreatDoor.Pg
set_option linter.unusedVariables false
theorem app_keeps {w3 w4 : World} {b n c : Nat} {o : Obj} (k : Keeps (fun j => (Value.slice (some ⟨b, 0, none⟩) n c).ownBlock = some j) (w3.alloc o) w4) : Keeps (fun j => j = b) w3 w4 :=
  Keeps.trans (F := fun j => j = b) (Keeps.of_below (below1 w3 o)) k (fun j hj => .inl (by injection hj with hj; exact hj.symm))
theorem app_keeps0 {w3 w4 : World} {b n c : Nat} (k : Keeps (fun j => (Value.slice (some ⟨b, 0, none⟩) n c).ownBlock = some j) w3 w4) : Keeps (fun j => j = b) w3 w4 :=
  Keeps.trans (F := fun j => j = b) (Keeps.refl _ w3) k (fun j hj => .inl (by injection hj with hj; exact hj.symm))
theorem keeps_below {w w' : World} {b B : Nat} (K : Keeps (fun j => j = b) w w') (h : B ≤ b) (hB : B ≤ w.heap.size) : Below B w w' := K.below (fun k hk => by rw [hk]; exact h) hB
theorem box7 {V : World} {b : Nat} {t : TypeId} {u0 u1 u2 u3 u4 u5 u6 : Value} (h : V.heap[b]? = some (.cells #[u0, u1, u2, u3, u4, u5, u6] t (0, 0))) : V.cell? ⟨b, 0, none⟩ = some u0 ∧ V.cell? ⟨b, 1, none⟩ = some u1 ∧ V.cell? ⟨b, 2, none⟩ = some u2 ∧ V.cell? ⟨b, 3, none⟩ = some u3 ∧ V.cell? ⟨b, 4, none⟩ = some u4 ∧ V.cell? ⟨b, 5, none⟩ = some u5 ∧ V.cell? ⟨b, 6, none⟩ = some u6 :=
  ⟨box_at h 0 _ rfl, box_at h 1 _ rfl, box_at h 2 _ rfl, box_at h 3 _ rfl, box_at h 4 _ rfl, box_at h 5 _ rfl, box_at h 6 _ rfl⟩
set_option maxRecDepth 100000 in
set_option maxHeartbeats 4000000 in
theorem modules_0 (l : List Step) (which n : Nat) (nm : ByteArray) (w : World) (hE : MEnv w) (hw8 : which < 256) (hn : n < 4294967296) (la : Option Addr) (lc : Nat) (hcap : l.length ≤ lc) (hv : StepsAt w (.slice la l.length lc) l) (hk : which % 8 = 0) :
    Calls Tryz.prog 4 #[.slice la l.length lc, .int .u8 (which : Int), .string nm, .int .u32 (n : Int)] w fun e w' => e = .returned (.bool true) ∧ Below w.heap.size w w' := by
  have hv2 := hv
  obtain ⟨_, _, _, hle, -⟩ := hv2.form
  have HX := Lib.hid (examples07 w hE)
  have HV := Lib.hid hv
  have HE := Lib.hid hE
  have HK := Lib.hid hk
  obtain ⟨v, hvv⟩ : ∃ v, n % 1000 = v := ⟨_, rfl⟩
  have hv3 : v < 1000 := by omega
  have hvI : (n : Int) % 1000 = (v : Int) := by omega
  clear hE hv hv2 hk hvv
  obtain ⟨M, hM⟩ : ∃ M, min l.length 20 = M := ⟨_, rfl⟩
  have hM1 : M ≤ l.length := by omega
  have hM2 : M ≤ lc := by omega
  have hM3 : min (l.length : Int) 20 = (M : Int) := by omega
  have HMM := Lib.hid hM
  clear hM
  have t0 : ((which : Int) % 8 == 0) = true := by have := HK.out; simp; omega
  go_enter Tryz.func4, Tryz.ntmps4
  go_wp2_with fail
  refine HX.out.mono ?_
  rintro e w1 ⟨rfl, c1⟩
  have C1 := Lib.hid c1
  clear c1
  go_wp2_with fail
  refine (made_any _ (l.take 20) w1 (ListAt.take (HV.out.later (fun _ _ _ _ h _ => h) C1.out) 20 M (by rw [List.length_take, ← HMM.out]; omega)) (made_opsWf _)).mono ?_
  rintro e w2 ⟨⟨bt, bf, bm, bg, be, bd, cv, rfl, hA⟩, c2⟩
  have HLn := Lib.hid (made_len (l.take 20))
  have HLaw := Lib.hid (mk_0 (l.take 20))
  obtain ⟨C, hC⟩ : ∃ C, (madeP (l.take 20)).code = C := ⟨_, rfl⟩
  rw [hC] at hA HLn HLaw
  clear hC
  obtain ⟨w3, hw3⟩ : ∃ w3, w2.alloc (.cells #[.slice (some ⟨bt, 0, none⟩) 1 1, .slice (some ⟨bf, 0, none⟩) 1 1, .slice (some ⟨bm, 0, none⟩) 1 1, .slice (some ⟨bg, 0, none⟩) 2 2, .slice (some ⟨be, 0, none⟩) 1 1, .int .i64 (-1), .slice (some ⟨bd, 0, none⟩) 1 1] 31) = w3 := ⟨_, rfl⟩
  have k3 : Below w2.heap.size w2 w3 := by rw [← hw3]; exact below1 _ _
  have hbox : w3.heap[w2.heap.size]? = some (.cells #[.slice (some ⟨bt, 0, none⟩) 1 1, .slice (some ⟨bf, 0, none⟩) 1 1, .slice (some ⟨bm, 0, none⟩) 1 1, .slice (some ⟨bg, 0, none⟩) 2 2, .slice (some ⟨be, 0, none⟩) 1 1, .int .i64 (-1), .slice (some ⟨bd, 0, none⟩) 1 1] 31 (0, 0)) := by rw [← hw3]; exact heap_alloc_new _ _
  have HA3 := Lib.hid (hA.later k3)
  have B3 := Lib.hid (C1.out.trans ((c2.trans (k3.mono c2.size)).mono C1.out.size))
  have BOX := Lib.hid hbox
  have HW2 := Lib.hid (Nat.le_trans C1.out.size c2.size)
  have HW1 := Lib.hid (C1.out.size)
  unfold madeV modV slV
  clear hA c2 k3 hbox
  go_upto_region 5 with fail
  clear hw3
  have hlow : w.heap.size ≤ bm ∧ w.heap.size ≤ be ∧ w.heap.size ≤ bf := by have := HA3.out.low; have := HW1.out; omega
  have HLow := Lib.hid hlow
  have hsz3 : bm < w3.heap.size ∧ be < w3.heap.size ∧ bf < w3.heap.size := ⟨(Array.getElem?_eq_some_iff.1 HA3.out.hm).1, (Array.getElem?_eq_some_iff.1 HA3.out.he).1, (Array.getElem?_eq_some_iff.1 HA3.out.hf).1⟩
  have HS3 := Lib.hid hsz3
  clear hlow hsz3
  obtain ⟨q0, q1, q2, q3, q4, q5, q6⟩ := box7 BOX.out
  have OWN := Lib.hid (own_one HA3.out.he [[.string ⟨#[102]⟩, .int .i64 0, .int .i64 0]] 3 1 (by simp) rfl rfl (by decide))
  go_wp2_with (at_builtin; refine wpList_app ty_exp rfl _ _ rfl rfl (OWN.out.later (below1 w3 _)) rfl (OwnAt.row (own_one (heap_alloc_new w3 _) [[.string ⟨#[102]⟩, .int .i64 2, .int .i64 0]] 3 1 (by simp) rfl rfl (by decide)) (by decide) (show 1 ≤ 9223372036854775807 by decide)) (by intro r hr u hu; revert u; revert r; simp [Value.oneCell']) (show 1 + 1 ≤ 1000000000 ∧ 32 ≤ 1000 by decide) (Nat.le_trans (Nat.le_of_lt HS3.out.2.1) (below1 w3 _).size) ?_)
  intro a4 p4 w4 o4 k4 _
  have K4 := Lib.hid (app_keeps k4)
  have O4 := Lib.hid (show OwnAt w4 be 45 3 (.slice a4 2 p4) ([expF, ⟨⟨#[102]⟩, 2, 0⟩].map ExpP.cells) from o4)
  have BOX4 := Lib.hid (block_keep K4.out BOX.out HA3.out.he (by decide))
  clear o4 k4 q0 q1 q2 q3 q4 q5 q6
  obtain ⟨q0, q1, q2, q3, q4, q5, q6⟩ := box7 BOX4.out
  have zf : ∀ j, w4.frozen? ⟨w2.heap.size, j, none⟩ = false := fun j => frozen_of_row w4 _ j _ _ BOX4.out
  go_wp2_with fail
  have KS : Keeps (fun j => j = w2.heap.size) w4 (w4.setCell ⟨w2.heap.size, 4, none⟩ (.slice a4 2 p4)) := Keeps.setCell w4 ⟨w2.heap.size, 4, none⟩ _ rfl
  have hP := ((parts_of HA3.out).keep K4.out HA3.out.he (by decide)).keep KS BOX4.out (by decide)
  have hM := block_keep KS (block_keep K4.out HA3.out.hm HA3.out.he (by decide)) BOX4.out (by decide)
  have hO : OwnAt (w4.setCell ⟨w2.heap.size, 4, none⟩ (.slice a4 2 p4)) be 45 3 (.slice a4 2 p4) ([expF, ⟨⟨#[102]⟩, 2, 0⟩].map ExpP.cells) := ⟨row_keep KS O4.out.1 BOX4.out (by decide), O4.out.2⟩
  have h4 := keeps_below K4.out HLow.out.2.1 B3.out.size
  have h5 := keeps_below KS HW2.out (Nat.le_trans B3.out.size h4.size)
  have K5 := Lib.hid (B3.out.trans (h4.trans h5))
  clear h4 h5
  refine (module_any _ _ _ _ _ _ _ (mkM 0 [⟨1, 2⟩] [expF, ⟨⟨#[102]⟩, 2, 0⟩] (-1) C) _ ((hP).mod (mems_block hM) (own_list hO (by decide) (show 2 ≤ 1000000000 by decide) (fun x hx => ⟨rfl, by simp only [List.mem_cons, List.mem_nil_iff, or_false] at hx; rcases hx with rfl | rfl <;> (first | decide | exact (show 1 ≤ 9223372036854775807 by decide))⟩))) (HE.out.later K5.out) (fun x hx => (by obtain rfl := List.mem_singleton.1 hx; show (C.map toL).length ≤ _; rw [List.length_map]; have := HLn.out; omega))).mono ?_
  rw [HLaw.out]
  rintro e w9 ⟨rfl, c9⟩
  have K9 := Lib.hid ((K5.out).trans (c9.mono (K5.out).size))
  clear c9
  go_wp2_with fail
  go_ret
  exact ⟨rfl, K9.out⟩
set_option maxRecDepth 100000 in
set_option maxHeartbeats 4000000 in
theorem modules_1 (l : List Step) (which n : Nat) (nm : ByteArray) (w : World) (hE : MEnv w) (hw8 : which < 256) (hn : n < 4294967296) (la : Option Addr) (lc : Nat) (hcap : l.length ≤ lc) (hv : StepsAt w (.slice la l.length lc) l) (hk : which % 8 = 1) :
    Calls Tryz.prog 4 #[.slice la l.length lc, .int .u8 (which : Int), .string nm, .int .u32 (n : Int)] w fun e w' => e = .returned (.bool true) ∧ Below w.heap.size w w' := by
  have hv2 := hv
  obtain ⟨_, _, _, hle, -⟩ := hv2.form
  have HX := Lib.hid (examples07 w hE)
  have HV := Lib.hid hv
  have HE := Lib.hid hE
  have HK := Lib.hid hk
  obtain ⟨v, hvv⟩ : ∃ v, n % 1000 = v := ⟨_, rfl⟩
  have hv3 : v < 1000 := by omega
  have hvI : (n : Int) % 1000 = (v : Int) := by omega
  clear hE hv hv2 hk hvv
  obtain ⟨M, hM⟩ : ∃ M, min l.length 20 = M := ⟨_, rfl⟩
  have hM1 : M ≤ l.length := by omega
  have hM2 : M ≤ lc := by omega
  have hM3 : min (l.length : Int) 20 = (M : Int) := by omega
  have HMM := Lib.hid hM
  clear hM
  have t0 : ((which : Int) % 8 == 0) = false := by have := HK.out; simp; omega
  have t1 : ((which : Int) % 8 == 1) = true := by have := HK.out; simp; omega
  go_enter Tryz.func4, Tryz.ntmps4
  go_wp2_with fail
  refine HX.out.mono ?_
  rintro e w1 ⟨rfl, c1⟩
  have C1 := Lib.hid c1
  clear c1
  go_wp2_with fail
  refine (made_any _ (l.take 20) w1 (ListAt.take (HV.out.later (fun _ _ _ _ h _ => h) C1.out) 20 M (by rw [List.length_take, ← HMM.out]; omega)) (made_opsWf _)).mono ?_
  rintro e w2 ⟨⟨bt, bf, bm, bg, be, bd, cv, rfl, hA⟩, c2⟩
  have HLn := Lib.hid (made_len (l.take 20))
  have HLaw := Lib.hid (mk_1 (l.take 20) (v : Int) (by omega) (by omega))
  obtain ⟨C, hC⟩ : ∃ C, (madeP (l.take 20)).code = C := ⟨_, rfl⟩
  rw [hC] at hA HLn HLaw
  clear hC
  obtain ⟨w3, hw3⟩ : ∃ w3, w2.alloc (.cells #[.slice (some ⟨bt, 0, none⟩) 1 1, .slice (some ⟨bf, 0, none⟩) 1 1, .slice (some ⟨bm, 0, none⟩) 1 1, .slice (some ⟨bg, 0, none⟩) 2 2, .slice (some ⟨be, 0, none⟩) 1 1, .int .i64 (-1), .slice (some ⟨bd, 0, none⟩) 1 1] 31) = w3 := ⟨_, rfl⟩
  have k3 : Below w2.heap.size w2 w3 := by rw [← hw3]; exact below1 _ _
  have hbox : w3.heap[w2.heap.size]? = some (.cells #[.slice (some ⟨bt, 0, none⟩) 1 1, .slice (some ⟨bf, 0, none⟩) 1 1, .slice (some ⟨bm, 0, none⟩) 1 1, .slice (some ⟨bg, 0, none⟩) 2 2, .slice (some ⟨be, 0, none⟩) 1 1, .int .i64 (-1), .slice (some ⟨bd, 0, none⟩) 1 1] 31 (0, 0)) := by rw [← hw3]; exact heap_alloc_new _ _
  have HA3 := Lib.hid (hA.later k3)
  have B3 := Lib.hid (C1.out.trans ((c2.trans (k3.mono c2.size)).mono C1.out.size))
  have BOX := Lib.hid hbox
  have HW2 := Lib.hid (Nat.le_trans C1.out.size c2.size)
  have HW1 := Lib.hid (C1.out.size)
  unfold madeV modV slV
  clear hA c2 k3 hbox
  go_upto_region 5 with fail
  clear hw3
  have hlow : w.heap.size ≤ bm ∧ w.heap.size ≤ be ∧ w.heap.size ≤ bf := by have := HA3.out.low; have := HW1.out; omega
  have HLow := Lib.hid hlow
  have hsz3 : bm < w3.heap.size ∧ be < w3.heap.size ∧ bf < w3.heap.size := ⟨(Array.getElem?_eq_some_iff.1 HA3.out.hm).1, (Array.getElem?_eq_some_iff.1 HA3.out.he).1, (Array.getElem?_eq_some_iff.1 HA3.out.hf).1⟩
  have HS3 := Lib.hid hsz3
  clear hlow hsz3
  have hw32 : IntKind.u32.wrap (v : Int) = (v : Int) := by show (v : Int) % 4294967296 = v; omega
  obtain ⟨q0, q1, q2, q3, q4, q5, q6⟩ := box7 BOX.out
  have OWN := Lib.hid (own_one HA3.out.he [[.string ⟨#[102]⟩, .int .i64 0, .int .i64 0]] 3 1 (by simp) rfl rfl (by decide))
  go_wp2_with (at_builtin; refine wpList_app ty_exp rfl _ _ rfl rfl (OWN.out.later (below1 w3 _)) rfl (OwnAt.row (own_one (heap_alloc_new w3 _) [[.string ⟨#[103]⟩, .int .i64 0, .int .i64 (1 + (v : Int))]] 3 1 (by simp) rfl rfl (by decide)) (by decide) (show 1 ≤ 9223372036854775807 by decide)) (by intro r hr u hu; revert u; revert r; simp [Value.oneCell']) (show 1 + 1 ≤ 1000000000 ∧ 32 ≤ 1000 by decide) (Nat.le_trans (Nat.le_of_lt HS3.out.2.1) (below1 w3 _).size) ?_)
  intro a4 p4 w4 o4 k4 _
  have K4 := Lib.hid (app_keeps k4)
  have O4 := Lib.hid (show OwnAt w4 be 45 3 (.slice a4 2 p4) ([expF, ⟨⟨#[103]⟩, 0, 1 + (v : Int)⟩].map ExpP.cells) from o4)
  have BOX4 := Lib.hid (block_keep K4.out BOX.out HA3.out.he (by decide))
  clear o4 k4 q0 q1 q2 q3 q4 q5 q6
  obtain ⟨q0, q1, q2, q3, q4, q5, q6⟩ := box7 BOX4.out
  have zf : ∀ j, w4.frozen? ⟨w2.heap.size, j, none⟩ = false := fun j => frozen_of_row w4 _ j _ _ BOX4.out
  go_wp2_with fail
  have KS : Keeps (fun j => j = w2.heap.size) w4 (w4.setCell ⟨w2.heap.size, 4, none⟩ (.slice a4 2 p4)) := Keeps.setCell w4 ⟨w2.heap.size, 4, none⟩ _ rfl
  have hP := ((parts_of HA3.out).keep K4.out HA3.out.he (by decide)).keep KS BOX4.out (by decide)
  have hM := block_keep KS (block_keep K4.out HA3.out.hm HA3.out.he (by decide)) BOX4.out (by decide)
  have hO : OwnAt (w4.setCell ⟨w2.heap.size, 4, none⟩ (.slice a4 2 p4)) be 45 3 (.slice a4 2 p4) ([expF, ⟨⟨#[103]⟩, 0, 1 + (v : Int)⟩].map ExpP.cells) := ⟨row_keep KS O4.out.1 BOX4.out (by decide), O4.out.2⟩
  have h4 := keeps_below K4.out HLow.out.2.1 B3.out.size
  have h5 := keeps_below KS HW2.out (Nat.le_trans B3.out.size h4.size)
  have K5 := Lib.hid (B3.out.trans (h4.trans h5))
  clear h4 h5
  refine (module_any _ _ _ _ _ _ _ (mkM 0 [⟨1, 2⟩] [expF, ⟨⟨#[103]⟩, 0, 1 + (v : Int)⟩] (-1) C) _ ((hP).mod (mems_block hM) (own_list hO (by decide) (show 2 ≤ 1000000000 by decide) (fun x hx => ⟨rfl, by simp only [List.mem_cons, List.mem_nil_iff, or_false] at hx; rcases hx with rfl | rfl <;> (first | decide | exact (show 1 ≤ 9223372036854775807 by decide))⟩))) (HE.out.later K5.out) (fun x hx => (by obtain rfl := List.mem_singleton.1 hx; show (C.map toL).length ≤ _; rw [List.length_map]; have := HLn.out; omega))).mono ?_
  rw [HLaw.out]
  rintro e w9 ⟨rfl, c9⟩
  have K9 := Lib.hid ((K5.out).trans (c9.mono (K5.out).size))
  clear c9
  go_wp2_with fail
  go_ret
  exact ⟨rfl, K9.out⟩
set_option maxRecDepth 100000 in
set_option maxHeartbeats 4000000 in
theorem modules_2 (l : List Step) (which n : Nat) (nm : ByteArray) (w : World) (hE : MEnv w) (hw8 : which < 256) (hn : n < 4294967296) (la : Option Addr) (lc : Nat) (hcap : l.length ≤ lc) (hv : StepsAt w (.slice la l.length lc) l) (hk : which % 8 = 2) :
    Calls Tryz.prog 4 #[.slice la l.length lc, .int .u8 (which : Int), .string nm, .int .u32 (n : Int)] w fun e w' => e = .returned (.bool true) ∧ Below w.heap.size w w' := by
  have hv2 := hv
  obtain ⟨_, _, _, hle, -⟩ := hv2.form
  have HX := Lib.hid (examples07 w hE)
  have HV := Lib.hid hv
  have HE := Lib.hid hE
  have HK := Lib.hid hk
  obtain ⟨v, hvv⟩ : ∃ v, n % 1000 = v := ⟨_, rfl⟩
  have hv3 : v < 1000 := by omega
  have hvI : (n : Int) % 1000 = (v : Int) := by omega
  clear hE hv hv2 hk hvv
  obtain ⟨M, hM⟩ : ∃ M, min l.length 20 = M := ⟨_, rfl⟩
  have hM1 : M ≤ l.length := by omega
  have hM2 : M ≤ lc := by omega
  have hM3 : min (l.length : Int) 20 = (M : Int) := by omega
  have HMM := Lib.hid hM
  clear hM
  have t0 : ((which : Int) % 8 == 0) = false := by have := HK.out; simp; omega
  have t1 : ((which : Int) % 8 == 1) = false := by have := HK.out; simp; omega
  have t2 : ((which : Int) % 8 == 2) = true := by have := HK.out; simp; omega
  go_enter Tryz.func4, Tryz.ntmps4
  go_wp2_with fail
  refine HX.out.mono ?_
  rintro e w1 ⟨rfl, c1⟩
  have C1 := Lib.hid c1
  clear c1
  go_wp2_with fail
  refine (made_any _ (l.take 20) w1 (ListAt.take (HV.out.later (fun _ _ _ _ h _ => h) C1.out) 20 M (by rw [List.length_take, ← HMM.out]; omega)) (made_opsWf _)).mono ?_
  rintro e w2 ⟨⟨bt, bf, bm, bg, be, bd, cv, rfl, hA⟩, c2⟩
  have HLn := Lib.hid (made_len (l.take 20))
  have HLaw := Lib.hid (mk_2 (l.take 20))
  obtain ⟨C, hC⟩ : ∃ C, (madeP (l.take 20)).code = C := ⟨_, rfl⟩
  rw [hC] at hA HLn HLaw
  clear hC
  obtain ⟨w3, hw3⟩ : ∃ w3, w2.alloc (.cells #[.slice (some ⟨bt, 0, none⟩) 1 1, .slice (some ⟨bf, 0, none⟩) 1 1, .slice (some ⟨bm, 0, none⟩) 1 1, .slice (some ⟨bg, 0, none⟩) 2 2, .slice (some ⟨be, 0, none⟩) 1 1, .int .i64 (-1), .slice (some ⟨bd, 0, none⟩) 1 1] 31) = w3 := ⟨_, rfl⟩
  have k3 : Below w2.heap.size w2 w3 := by rw [← hw3]; exact below1 _ _
  have hbox : w3.heap[w2.heap.size]? = some (.cells #[.slice (some ⟨bt, 0, none⟩) 1 1, .slice (some ⟨bf, 0, none⟩) 1 1, .slice (some ⟨bm, 0, none⟩) 1 1, .slice (some ⟨bg, 0, none⟩) 2 2, .slice (some ⟨be, 0, none⟩) 1 1, .int .i64 (-1), .slice (some ⟨bd, 0, none⟩) 1 1] 31 (0, 0)) := by rw [← hw3]; exact heap_alloc_new _ _
  have HA3 := Lib.hid (hA.later k3)
  have B3 := Lib.hid (C1.out.trans ((c2.trans (k3.mono c2.size)).mono C1.out.size))
  have BOX := Lib.hid hbox
  have HW2 := Lib.hid (Nat.le_trans C1.out.size c2.size)
  have HW1 := Lib.hid (C1.out.size)
  unfold madeV modV slV
  clear hA c2 k3 hbox
  go_upto_region 5 with fail
  clear hw3
  have hlow : w.heap.size ≤ bm ∧ w.heap.size ≤ be ∧ w.heap.size ≤ bf := by have := HA3.out.low; have := HW1.out; omega
  have HLow := Lib.hid hlow
  have hsz3 : bm < w3.heap.size ∧ be < w3.heap.size ∧ bf < w3.heap.size := ⟨(Array.getElem?_eq_some_iff.1 HA3.out.hm).1, (Array.getElem?_eq_some_iff.1 HA3.out.he).1, (Array.getElem?_eq_some_iff.1 HA3.out.hf).1⟩
  have HS3 := Lib.hid hsz3
  clear hlow hsz3
  obtain ⟨q0, q1, q2, q3, q4, q5, q6⟩ := box7 BOX.out
  have zf : ∀ j, w3.frozen? ⟨w2.heap.size, j, none⟩ = false := fun j => frozen_of_row w3 _ j _ _ BOX.out
  go_wp2_with fail
  have KS : Keeps (fun j => j = w2.heap.size) w3 (w3.setCell ⟨w2.heap.size, 5, none⟩ (.int .i64 0)) := Keeps.setCell w3 ⟨w2.heap.size, 5, none⟩ _ rfl
  have hP := (parts_of HA3.out).keep KS BOX.out (by decide)
  have hM := block_keep KS HA3.out.hm BOX.out (by decide)
  have hX := block_keep KS HA3.out.he BOX.out (by decide)
  have K5 := Lib.hid (B3.out.trans (keeps_below KS HW2.out B3.out.size))
  refine (module_any _ _ _ _ _ _ _ (mkM 0 [⟨1, 2⟩] [expF] 0 C) _ ((hP).mod (mems_block hM) (exps_block hX)) (HE.out.later K5.out) (fun x hx => (by obtain rfl := List.mem_singleton.1 hx; show (C.map toL).length ≤ _; rw [List.length_map]; have := HLn.out; omega))).mono ?_
  rw [HLaw.out]
  rintro e w9 ⟨rfl, c9⟩
  have K9 := Lib.hid ((K5.out).trans (c9.mono (K5.out).size))
  clear c9
  go_wp2_with fail
  go_ret
  exact ⟨rfl, K9.out⟩
set_option maxRecDepth 100000 in
set_option maxHeartbeats 4000000 in
theorem modules_3 (l : List Step) (which n : Nat) (nm : ByteArray) (w : World) (hE : MEnv w) (hw8 : which < 256) (hn : n < 4294967296) (la : Option Addr) (lc : Nat) (hcap : l.length ≤ lc) (hv : StepsAt w (.slice la l.length lc) l) (hk : which % 8 = 3) :
    Calls Tryz.prog 4 #[.slice la l.length lc, .int .u8 (which : Int), .string nm, .int .u32 (n : Int)] w fun e w' => e = .returned (.bool true) ∧ Below w.heap.size w w' := by
  have hv2 := hv
  obtain ⟨_, _, _, hle, -⟩ := hv2.form
  have HX := Lib.hid (examples07 w hE)
  have HV := Lib.hid hv
  have HE := Lib.hid hE
  have HK := Lib.hid hk
  obtain ⟨v, hvv⟩ : ∃ v, n % 1000 = v := ⟨_, rfl⟩
  have hv3 : v < 1000 := by omega
  have hvI : (n : Int) % 1000 = (v : Int) := by omega
  clear hE hv hv2 hk hvv
  obtain ⟨M, hM⟩ : ∃ M, min l.length 20 = M := ⟨_, rfl⟩
  have hM1 : M ≤ l.length := by omega
  have hM2 : M ≤ lc := by omega
  have hM3 : min (l.length : Int) 20 = (M : Int) := by omega
  have HMM := Lib.hid hM
  clear hM
  have t0 : ((which : Int) % 8 == 0) = false := by have := HK.out; simp; omega
  have t1 : ((which : Int) % 8 == 1) = false := by have := HK.out; simp; omega
  have t2 : ((which : Int) % 8 == 2) = false := by have := HK.out; simp; omega
  have t3 : ((which : Int) % 8 == 3) = true := by have := HK.out; simp; omega
  go_enter Tryz.func4, Tryz.ntmps4
  go_wp2_with fail
  refine HX.out.mono ?_
  rintro e w1 ⟨rfl, c1⟩
  have C1 := Lib.hid c1
  clear c1
  go_wp2_with fail
  refine (made_any _ (l.take 20) w1 (ListAt.take (HV.out.later (fun _ _ _ _ h _ => h) C1.out) 20 M (by rw [List.length_take, ← HMM.out]; omega)) (made_opsWf _)).mono ?_
  rintro e w2 ⟨⟨bt, bf, bm, bg, be, bd, cv, rfl, hA⟩, c2⟩
  have HLn := Lib.hid (made_len (l.take 20))
  have HLaw := Lib.hid (mk_3 (l.take 20))
  obtain ⟨C, hC⟩ : ∃ C, (madeP (l.take 20)).code = C := ⟨_, rfl⟩
  rw [hC] at hA HLn HLaw
  clear hC
  obtain ⟨w3, hw3⟩ : ∃ w3, w2.alloc (.cells #[.slice (some ⟨bt, 0, none⟩) 1 1, .slice (some ⟨bf, 0, none⟩) 1 1, .slice (some ⟨bm, 0, none⟩) 1 1, .slice (some ⟨bg, 0, none⟩) 2 2, .slice (some ⟨be, 0, none⟩) 1 1, .int .i64 (-1), .slice (some ⟨bd, 0, none⟩) 1 1] 31) = w3 := ⟨_, rfl⟩
  have k3 : Below w2.heap.size w2 w3 := by rw [← hw3]; exact below1 _ _
  have hbox : w3.heap[w2.heap.size]? = some (.cells #[.slice (some ⟨bt, 0, none⟩) 1 1, .slice (some ⟨bf, 0, none⟩) 1 1, .slice (some ⟨bm, 0, none⟩) 1 1, .slice (some ⟨bg, 0, none⟩) 2 2, .slice (some ⟨be, 0, none⟩) 1 1, .int .i64 (-1), .slice (some ⟨bd, 0, none⟩) 1 1] 31 (0, 0)) := by rw [← hw3]; exact heap_alloc_new _ _
  have HA3 := Lib.hid (hA.later k3)
  have B3 := Lib.hid (C1.out.trans ((c2.trans (k3.mono c2.size)).mono C1.out.size))
  have BOX := Lib.hid hbox
  have HW2 := Lib.hid (Nat.le_trans C1.out.size c2.size)
  have HW1 := Lib.hid (C1.out.size)
  unfold madeV modV slV
  clear hA c2 k3 hbox
  go_upto_region 5 with fail
  clear hw3
  have hlow : w.heap.size ≤ bm ∧ w.heap.size ≤ be ∧ w.heap.size ≤ bf := by have := HA3.out.low; have := HW1.out; omega
  have HLow := Lib.hid hlow
  have hsz3 : bm < w3.heap.size ∧ be < w3.heap.size ∧ bf < w3.heap.size := ⟨(Array.getElem?_eq_some_iff.1 HA3.out.hm).1, (Array.getElem?_eq_some_iff.1 HA3.out.he).1, (Array.getElem?_eq_some_iff.1 HA3.out.hf).1⟩
  have HS3 := Lib.hid hsz3
  clear hlow hsz3
  obtain ⟨q0, q1, q2, q3, q4, q5, q6⟩ := box7 BOX.out
  have OWN := Lib.hid (own_one HA3.out.hm [[.int .i64 1, .int .i64 2]] 2 1 (by simp) rfl rfl (by decide))
  go_wp2_with (at_builtin; refine wpList_app ty_mem rfl _ _ rfl rfl OWN.out rfl (OwnAt.row OWN.out (by decide) (show 1 ≤ 9223372036854775807 by decide)) (by intro r hr u hu; revert u; revert r; simp [Value.oneCell']) (show 1 + 1 ≤ 1000000000 ∧ 16 ≤ 1000 by decide) (Nat.le_of_lt HS3.out.1) ?_)
  intro a4 p4 w4 o4 k4 _
  have K4 := Lib.hid (app_keeps0 k4)
  have O4 := Lib.hid (show OwnAt w4 bm 47 2 (.slice a4 2 p4) ([(⟨1, 2⟩ : MemP), ⟨1, 2⟩].map MemP.cells) from o4)
  have BOX4 := Lib.hid (block_keep K4.out BOX.out HA3.out.hm (by decide))
  clear o4 k4 q0 q1 q2 q3 q4 q5 q6
  obtain ⟨q0, q1, q2, q3, q4, q5, q6⟩ := box7 BOX4.out
  have zf : ∀ j, w4.frozen? ⟨w2.heap.size, j, none⟩ = false := fun j => frozen_of_row w4 _ j _ _ BOX4.out
  go_wp2_with fail
  have KS : Keeps (fun j => j = w2.heap.size) w4 (w4.setCell ⟨w2.heap.size, 2, none⟩ (.slice a4 2 p4)) := Keeps.setCell w4 ⟨w2.heap.size, 2, none⟩ _ rfl
  have hP := ((parts_of HA3.out).keep K4.out HA3.out.hm (by decide)).keep KS BOX4.out (by decide)
  have hX := block_keep KS (block_keep K4.out HA3.out.he HA3.out.hm (by decide)) BOX4.out (by decide)
  have hO : OwnAt (w4.setCell ⟨w2.heap.size, 2, none⟩ (.slice a4 2 p4)) bm 47 2 (.slice a4 2 p4) ([(⟨1, 2⟩ : MemP), ⟨1, 2⟩].map MemP.cells) := ⟨row_keep KS O4.out.1 BOX4.out (by decide), O4.out.2⟩
  have h4 := keeps_below K4.out HLow.out.1 B3.out.size
  have h5 := keeps_below KS HW2.out (Nat.le_trans B3.out.size h4.size)
  have K5 := Lib.hid (B3.out.trans (h4.trans h5))
  clear h4 h5
  refine (module_any _ _ _ _ _ _ _ (mkM 0 [⟨1, 2⟩, ⟨1, 2⟩] [expF] (-1) C) _ ((hP).mod (own_list hO (by decide) (show 2 ≤ 1000000000 by decide) (fun x hx => rfl)) (exps_block hX)) (HE.out.later K5.out) (fun x hx => (by obtain rfl := List.mem_singleton.1 hx; show (C.map toL).length ≤ _; rw [List.length_map]; have := HLn.out; omega))).mono ?_
  rw [HLaw.out]
  rintro e w9 ⟨rfl, c9⟩
  have K9 := Lib.hid ((K5.out).trans (c9.mono (K5.out).size))
  clear c9
  go_wp2_with fail
  go_ret
  exact ⟨rfl, K9.out⟩
set_option maxRecDepth 100000 in
set_option maxHeartbeats 4000000 in
theorem modules_4 (l : List Step) (which n : Nat) (nm : ByteArray) (w : World) (hE : MEnv w) (hw8 : which < 256) (hn : n < 4294967296) (la : Option Addr) (lc : Nat) (hcap : l.length ≤ lc) (hv : StepsAt w (.slice la l.length lc) l) (hk : which % 8 = 4) :
    Calls Tryz.prog 4 #[.slice la l.length lc, .int .u8 (which : Int), .string nm, .int .u32 (n : Int)] w fun e w' => e = .returned (.bool true) ∧ Below w.heap.size w w' := by
  have hv2 := hv
  obtain ⟨_, _, _, hle, -⟩ := hv2.form
  have HX := Lib.hid (examples07 w hE)
  have HV := Lib.hid hv
  have HE := Lib.hid hE
  have HK := Lib.hid hk
  obtain ⟨v, hvv⟩ : ∃ v, n % 1000 = v := ⟨_, rfl⟩
  have hv3 : v < 1000 := by omega
  have hvI : (n : Int) % 1000 = (v : Int) := by omega
  clear hE hv hv2 hk hvv
  obtain ⟨M, hM⟩ : ∃ M, min l.length 20 = M := ⟨_, rfl⟩
  have hM1 : M ≤ l.length := by omega
  have hM2 : M ≤ lc := by omega
  have hM3 : min (l.length : Int) 20 = (M : Int) := by omega
  have HMM := Lib.hid hM
  clear hM
  have t0 : ((which : Int) % 8 == 0) = false := by have := HK.out; simp; omega
  have t1 : ((which : Int) % 8 == 1) = false := by have := HK.out; simp; omega
  have t2 : ((which : Int) % 8 == 2) = false := by have := HK.out; simp; omega
  have t3 : ((which : Int) % 8 == 3) = false := by have := HK.out; simp; omega
  have t4 : ((which : Int) % 8 == 4) = true := by have := HK.out; simp; omega
  go_enter Tryz.func4, Tryz.ntmps4
  go_wp2_with fail
  refine HX.out.mono ?_
  rintro e w1 ⟨rfl, c1⟩
  have C1 := Lib.hid c1
  clear c1
  go_wp2_with fail
  refine (made_any _ (l.take 20) w1 (ListAt.take (HV.out.later (fun _ _ _ _ h _ => h) C1.out) 20 M (by rw [List.length_take, ← HMM.out]; omega)) (made_opsWf _)).mono ?_
  rintro e w2 ⟨⟨bt, bf, bm, bg, be, bd, cv, rfl, hA⟩, c2⟩
  have HLn := Lib.hid (made_len (l.take 20))
  have HLaw := Lib.hid (mk_4 (l.take 20) (v : Int) (by omega) (by omega))
  obtain ⟨C, hC⟩ : ∃ C, (madeP (l.take 20)).code = C := ⟨_, rfl⟩
  rw [hC] at hA HLn HLaw
  clear hC
  obtain ⟨w3, hw3⟩ : ∃ w3, w2.alloc (.cells #[.slice (some ⟨bt, 0, none⟩) 1 1, .slice (some ⟨bf, 0, none⟩) 1 1, .slice (some ⟨bm, 0, none⟩) 1 1, .slice (some ⟨bg, 0, none⟩) 2 2, .slice (some ⟨be, 0, none⟩) 1 1, .int .i64 (-1), .slice (some ⟨bd, 0, none⟩) 1 1] 31) = w3 := ⟨_, rfl⟩
  have k3 : Below w2.heap.size w2 w3 := by rw [← hw3]; exact below1 _ _
  have hbox : w3.heap[w2.heap.size]? = some (.cells #[.slice (some ⟨bt, 0, none⟩) 1 1, .slice (some ⟨bf, 0, none⟩) 1 1, .slice (some ⟨bm, 0, none⟩) 1 1, .slice (some ⟨bg, 0, none⟩) 2 2, .slice (some ⟨be, 0, none⟩) 1 1, .int .i64 (-1), .slice (some ⟨bd, 0, none⟩) 1 1] 31 (0, 0)) := by rw [← hw3]; exact heap_alloc_new _ _
  have HA3 := Lib.hid (hA.later k3)
  have B3 := Lib.hid (C1.out.trans ((c2.trans (k3.mono c2.size)).mono C1.out.size))
  have BOX := Lib.hid hbox
  have HW2 := Lib.hid (Nat.le_trans C1.out.size c2.size)
  have HW1 := Lib.hid (C1.out.size)
  unfold madeV modV slV
  clear hA c2 k3 hbox
  go_upto_region 5 with fail
  clear hw3
  have hlow : w.heap.size ≤ bm ∧ w.heap.size ≤ be ∧ w.heap.size ≤ bf := by have := HA3.out.low; have := HW1.out; omega
  have HLow := Lib.hid hlow
  have hsz3 : bm < w3.heap.size ∧ be < w3.heap.size ∧ bf < w3.heap.size := ⟨(Array.getElem?_eq_some_iff.1 HA3.out.hm).1, (Array.getElem?_eq_some_iff.1 HA3.out.he).1, (Array.getElem?_eq_some_iff.1 HA3.out.hf).1⟩
  have HS3 := Lib.hid hsz3
  clear hlow hsz3
  obtain ⟨q0, q1, q2, q3, q4, q5, q6⟩ := box7 BOX.out
  have hw32 : IntKind.u32.wrap (v : Int) = (v : Int) := by show (v : Int) % 4294967296 = v; omega
  have zm : ∀ j, w3.frozen? ⟨bm, j, none⟩ = false := fun j => frozen_of_row w3 _ j _ _ HA3.out.hm
  have z0 := box_at HA3.out.hm 0 _ rfl
  have z1 := box_at HA3.out.hm 1 _ rfl
  have hne : ¬ w2.heap.size = bm := fun e => by
    have h1 := BOX.out
    rw [e, HA3.out.hm] at h1
    simp at h1
  have hne2 : ¬ bm = w2.heap.size := fun e => hne e.symm
  go_wp2_with fail
  obtain ⟨w5, hw5⟩ : ∃ w5, (w3.setCell ⟨bm, 0, none⟩ (.int .i64 (65537 + (v : Int)))).setCell ⟨bm, 1, none⟩ (.int .i64 (-1)) = w5 := ⟨_, rfl⟩
  have KS : Keeps (fun j => j = bm) w3 w5 := by
    rw [← hw5]
    exact Keeps.trans (Keeps.setCell w3 ⟨bm, 0, none⟩ _ rfl) (Keeps.setCell (F := fun j => j = bm) _ ⟨bm, 1, none⟩ _ rfl) (fun j hj => .inl hj)
  have hP := (parts_of HA3.out).keep KS HA3.out.hm (by decide)
  have hX := block_keep KS HA3.out.he HA3.out.hm (by decide)
  have hM : w5.heap[bm]? = some (.cells #[.int .i64 (65537 + (v : Int)), .int .i64 (-1)] 47 (0, 0)) := by
    rw [← hw5]
    exact box_set (box_set HA3.out.hm 0 _) 1 _
  have K5 := Lib.hid (B3.out.trans (keeps_below KS HLow.out.1 B3.out.size))
  rw [hw5]
  clear hw5
  refine (module_any _ _ _ _ _ _ _ (mkM 0 [⟨65537 + (v : Int), -1⟩] [expF] (-1) C) _ ((hP).mod (mems_block hM) (exps_block hX)) (HE.out.later K5.out) (fun x hx => (by obtain rfl := List.mem_singleton.1 hx; show (C.map toL).length ≤ _; rw [List.length_map]; have := HLn.out; omega))).mono ?_
  rw [HLaw.out]
  rintro e w9 ⟨rfl, c9⟩
  have K9 := Lib.hid ((K5.out).trans (c9.mono (K5.out).size))
  clear c9
  go_wp2_with fail
  go_ret
  exact ⟨rfl, K9.out⟩
set_option maxRecDepth 100000 in
set_option maxHeartbeats 4000000 in
theorem modules_5 (l : List Step) (which n : Nat) (nm : ByteArray) (w : World) (hE : MEnv w) (hw8 : which < 256) (hn : n < 4294967296) (la : Option Addr) (lc : Nat) (hcap : l.length ≤ lc) (hv : StepsAt w (.slice la l.length lc) l) (hk : which % 8 = 5) :
    Calls Tryz.prog 4 #[.slice la l.length lc, .int .u8 (which : Int), .string nm, .int .u32 (n : Int)] w fun e w' => e = .returned (.bool true) ∧ Below w.heap.size w w' := by
  have hv2 := hv
  obtain ⟨_, _, _, hle, -⟩ := hv2.form
  have HX := Lib.hid (examples07 w hE)
  have HV := Lib.hid hv
  have HE := Lib.hid hE
  have HK := Lib.hid hk
  obtain ⟨v, hvv⟩ : ∃ v, n % 1000 = v := ⟨_, rfl⟩
  have hv3 : v < 1000 := by omega
  have hvI : (n : Int) % 1000 = (v : Int) := by omega
  clear hE hv hv2 hk hvv
  obtain ⟨M, hM⟩ : ∃ M, min l.length 20 = M := ⟨_, rfl⟩
  have hM1 : M ≤ l.length := by omega
  have hM2 : M ≤ lc := by omega
  have hM3 : min (l.length : Int) 20 = (M : Int) := by omega
  have HMM := Lib.hid hM
  clear hM
  have t0 : ((which : Int) % 8 == 0) = false := by have := HK.out; simp; omega
  have t1 : ((which : Int) % 8 == 1) = false := by have := HK.out; simp; omega
  have t2 : ((which : Int) % 8 == 2) = false := by have := HK.out; simp; omega
  have t3 : ((which : Int) % 8 == 3) = false := by have := HK.out; simp; omega
  have t4 : ((which : Int) % 8 == 4) = false := by have := HK.out; simp; omega
  have t5 : ((which : Int) % 8 == 5) = true := by have := HK.out; simp; omega
  go_enter Tryz.func4, Tryz.ntmps4
  go_wp2_with fail
  refine HX.out.mono ?_
  rintro e w1 ⟨rfl, c1⟩
  have C1 := Lib.hid c1
  clear c1
  go_wp2_with fail
  refine (made_any _ (l.take 20) w1 (ListAt.take (HV.out.later (fun _ _ _ _ h _ => h) C1.out) 20 M (by rw [List.length_take, ← HMM.out]; omega)) (made_opsWf _)).mono ?_
  rintro e w2 ⟨⟨bt, bf, bm, bg, be, bd, cv, rfl, hA⟩, c2⟩
  have HLn := Lib.hid (made_len (l.take 20))
  have HLaw := Lib.hid (mk_5 (l.take 20) (v : Int) (by omega) (by omega))
  obtain ⟨C, hC⟩ : ∃ C, (madeP (l.take 20)).code = C := ⟨_, rfl⟩
  rw [hC] at hA HLn HLaw
  clear hC
  obtain ⟨w3, hw3⟩ : ∃ w3, w2.alloc (.cells #[.slice (some ⟨bt, 0, none⟩) 1 1, .slice (some ⟨bf, 0, none⟩) 1 1, .slice (some ⟨bm, 0, none⟩) 1 1, .slice (some ⟨bg, 0, none⟩) 2 2, .slice (some ⟨be, 0, none⟩) 1 1, .int .i64 (-1), .slice (some ⟨bd, 0, none⟩) 1 1] 31) = w3 := ⟨_, rfl⟩
  have k3 : Below w2.heap.size w2 w3 := by rw [← hw3]; exact below1 _ _
  have hbox : w3.heap[w2.heap.size]? = some (.cells #[.slice (some ⟨bt, 0, none⟩) 1 1, .slice (some ⟨bf, 0, none⟩) 1 1, .slice (some ⟨bm, 0, none⟩) 1 1, .slice (some ⟨bg, 0, none⟩) 2 2, .slice (some ⟨be, 0, none⟩) 1 1, .int .i64 (-1), .slice (some ⟨bd, 0, none⟩) 1 1] 31 (0, 0)) := by rw [← hw3]; exact heap_alloc_new _ _
  have HA3 := Lib.hid (hA.later k3)
  have B3 := Lib.hid (C1.out.trans ((c2.trans (k3.mono c2.size)).mono C1.out.size))
  have BOX := Lib.hid hbox
  have HW2 := Lib.hid (Nat.le_trans C1.out.size c2.size)
  have HW1 := Lib.hid (C1.out.size)
  unfold madeV modV slV
  clear hA c2 k3 hbox
  go_upto_region 5 with fail
  clear hw3
  have hlow : w.heap.size ≤ bm ∧ w.heap.size ≤ be ∧ w.heap.size ≤ bf := by have := HA3.out.low; have := HW1.out; omega
  have HLow := Lib.hid hlow
  have hsz3 : bm < w3.heap.size ∧ be < w3.heap.size ∧ bf < w3.heap.size := ⟨(Array.getElem?_eq_some_iff.1 HA3.out.hm).1, (Array.getElem?_eq_some_iff.1 HA3.out.he).1, (Array.getElem?_eq_some_iff.1 HA3.out.hf).1⟩
  have HS3 := Lib.hid hsz3
  clear hlow hsz3
  obtain ⟨q0, q1, q2, q3, q4, q5, q6⟩ := box7 BOX.out
  have hw32 : IntKind.u32.wrap (v : Int) = (v : Int) := by show (v : Int) % 4294967296 = v; omega
  have zm : ∀ j, w3.frozen? ⟨bm, j, none⟩ = false := fun j => frozen_of_row w3 _ j _ _ HA3.out.hm
  have z0 := box_at HA3.out.hm 0 _ rfl
  have z1 := box_at HA3.out.hm 1 _ rfl
  have hne : ¬ w2.heap.size = bm := fun e => by
    have h1 := BOX.out
    rw [e, HA3.out.hm] at h1
    simp at h1
  have hne2 : ¬ bm = w2.heap.size := fun e => hne e.symm
  go_wp2_with fail
  obtain ⟨w5, hw5⟩ : ∃ w5, (w3.setCell ⟨bm, 0, none⟩ (.int .i64 (1 + (v : Int)))).setCell ⟨bm, 1, none⟩ (.int .i64 (v : Int)) = w5 := ⟨_, rfl⟩
  have KS : Keeps (fun j => j = bm) w3 w5 := by
    rw [← hw5]
    exact Keeps.trans (Keeps.setCell w3 ⟨bm, 0, none⟩ _ rfl) (Keeps.setCell (F := fun j => j = bm) _ ⟨bm, 1, none⟩ _ rfl) (fun j hj => .inl hj)
  have hP := (parts_of HA3.out).keep KS HA3.out.hm (by decide)
  have hX := block_keep KS HA3.out.he HA3.out.hm (by decide)
  have hM : w5.heap[bm]? = some (.cells #[.int .i64 (1 + (v : Int)), .int .i64 (v : Int)] 47 (0, 0)) := by
    rw [← hw5]
    exact box_set (box_set HA3.out.hm 0 _) 1 _
  have K5 := Lib.hid (B3.out.trans (keeps_below KS HLow.out.1 B3.out.size))
  rw [hw5]
  clear hw5
  refine (module_any _ _ _ _ _ _ _ (mkM 0 [⟨1 + (v : Int), (v : Int)⟩] [expF] (-1) C) _ ((hP).mod (mems_block hM) (exps_block hX)) (HE.out.later K5.out) (fun x hx => (by obtain rfl := List.mem_singleton.1 hx; show (C.map toL).length ≤ _; rw [List.length_map]; have := HLn.out; omega))).mono ?_
  rw [HLaw.out]
  rintro e w9 ⟨rfl, c9⟩
  have K9 := Lib.hid ((K5.out).trans (c9.mono (K5.out).size))
  clear c9
  go_wp2_with fail
  go_ret
  exact ⟨rfl, K9.out⟩
set_option maxRecDepth 100000 in
set_option maxHeartbeats 4000000 in
theorem modules_6 (l : List Step) (which n : Nat) (nm : ByteArray) (w : World) (hE : MEnv w) (hw8 : which < 256) (hn : n < 4294967296) (la : Option Addr) (lc : Nat) (hcap : l.length ≤ lc) (hv : StepsAt w (.slice la l.length lc) l) (hk : which % 8 = 6) :
    Calls Tryz.prog 4 #[.slice la l.length lc, .int .u8 (which : Int), .string nm, .int .u32 (n : Int)] w fun e w' => e = .returned (.bool true) ∧ Below w.heap.size w w' := by
  have hv2 := hv
  obtain ⟨_, _, _, hle, -⟩ := hv2.form
  have HX := Lib.hid (examples07 w hE)
  have HV := Lib.hid hv
  have HE := Lib.hid hE
  have HK := Lib.hid hk
  obtain ⟨v, hvv⟩ : ∃ v, n % 1000 = v := ⟨_, rfl⟩
  have hv3 : v < 1000 := by omega
  have hvI : (n : Int) % 1000 = (v : Int) := by omega
  clear hE hv hv2 hk hvv
  obtain ⟨M, hM⟩ : ∃ M, min l.length 20 = M := ⟨_, rfl⟩
  have hM1 : M ≤ l.length := by omega
  have hM2 : M ≤ lc := by omega
  have hM3 : min (l.length : Int) 20 = (M : Int) := by omega
  have HMM := Lib.hid hM
  clear hM
  have t0 : ((which : Int) % 8 == 0) = false := by have := HK.out; simp; omega
  have t1 : ((which : Int) % 8 == 1) = false := by have := HK.out; simp; omega
  have t2 : ((which : Int) % 8 == 2) = false := by have := HK.out; simp; omega
  have t3 : ((which : Int) % 8 == 3) = false := by have := HK.out; simp; omega
  have t4 : ((which : Int) % 8 == 4) = false := by have := HK.out; simp; omega
  have t5 : ((which : Int) % 8 == 5) = false := by have := HK.out; simp; omega
  have t6 : ((which : Int) % 8 == 6) = true := by have := HK.out; simp; omega
  go_enter Tryz.func4, Tryz.ntmps4
  go_wp2_with fail
  refine HX.out.mono ?_
  rintro e w1 ⟨rfl, c1⟩
  have C1 := Lib.hid c1
  clear c1
  go_wp2_with fail
  refine (made_any _ (l.take 20) w1 (ListAt.take (HV.out.later (fun _ _ _ _ h _ => h) C1.out) 20 M (by rw [List.length_take, ← HMM.out]; omega)) (made_opsWf _)).mono ?_
  rintro e w2 ⟨⟨bt, bf, bm, bg, be, bd, cv, rfl, hA⟩, c2⟩
  have HLn := Lib.hid (made_len (l.take 20))
  have HLaw := Lib.hid (mk_6 (l.take 20))
  obtain ⟨C, hC⟩ : ∃ C, (madeP (l.take 20)).code = C := ⟨_, rfl⟩
  rw [hC] at hA HLn HLaw
  clear hC
  obtain ⟨w3, hw3⟩ : ∃ w3, w2.alloc (.cells #[.slice (some ⟨bt, 0, none⟩) 1 1, .slice (some ⟨bf, 0, none⟩) 1 1, .slice (some ⟨bm, 0, none⟩) 1 1, .slice (some ⟨bg, 0, none⟩) 2 2, .slice (some ⟨be, 0, none⟩) 1 1, .int .i64 (-1), .slice (some ⟨bd, 0, none⟩) 1 1] 31) = w3 := ⟨_, rfl⟩
  have k3 : Below w2.heap.size w2 w3 := by rw [← hw3]; exact below1 _ _
  have hbox : w3.heap[w2.heap.size]? = some (.cells #[.slice (some ⟨bt, 0, none⟩) 1 1, .slice (some ⟨bf, 0, none⟩) 1 1, .slice (some ⟨bm, 0, none⟩) 1 1, .slice (some ⟨bg, 0, none⟩) 2 2, .slice (some ⟨be, 0, none⟩) 1 1, .int .i64 (-1), .slice (some ⟨bd, 0, none⟩) 1 1] 31 (0, 0)) := by rw [← hw3]; exact heap_alloc_new _ _
  have HA3 := Lib.hid (hA.later k3)
  have B3 := Lib.hid (C1.out.trans ((c2.trans (k3.mono c2.size)).mono C1.out.size))
  have BOX := Lib.hid hbox
  have HW2 := Lib.hid (Nat.le_trans C1.out.size c2.size)
  have HW1 := Lib.hid (C1.out.size)
  unfold madeV modV slV
  clear hA c2 k3 hbox
  go_upto_region 5 with fail
  clear hw3
  have hlow : w.heap.size ≤ bm ∧ w.heap.size ≤ be ∧ w.heap.size ≤ bf := by have := HA3.out.low; have := HW1.out; omega
  have HLow := Lib.hid hlow
  have hsz3 : bm < w3.heap.size ∧ be < w3.heap.size ∧ bf < w3.heap.size := ⟨(Array.getElem?_eq_some_iff.1 HA3.out.hm).1, (Array.getElem?_eq_some_iff.1 HA3.out.he).1, (Array.getElem?_eq_some_iff.1 HA3.out.hf).1⟩
  have HS3 := Lib.hid hsz3
  clear hlow hsz3
  obtain ⟨q0, q1, q2, q3, q4, q5, q6⟩ := box7 BOX.out
  have OWN := Lib.hid (own_one HA3.out.he [[.string ⟨#[102]⟩, .int .i64 0, .int .i64 0]] 3 1 (by simp) rfl rfl (by decide))
  go_wp2_with (at_builtin; refine wpList_app ty_exp rfl _ _ rfl rfl (OWN.out.later (below1 w3 _)) rfl (OwnAt.row (own_one (heap_alloc_new w3 _) [[.string ⟨#[109, 101, 109]⟩, .int .i64 2, .int .i64 0], [.string ⟨#[103, 108, 111, 98]⟩, .int .i64 3, .int .i64 1]] 3 2 (by simp) rfl rfl (by decide)) (by decide) (show 2 ≤ 9223372036854775807 by decide)) (by intro r hr u hu; revert u; revert r; simp [Value.oneCell']) (show 1 + 2 ≤ 1000000000 ∧ 32 ≤ 1000 by decide) (Nat.le_trans (Nat.le_of_lt HS3.out.2.1) (below1 w3 _).size) ?_)
  intro a4 p4 w4 o4 k4 _
  have K4 := Lib.hid (app_keeps k4)
  have O4 := Lib.hid (show OwnAt w4 be 45 3 (.slice a4 3 p4) ([expF, ⟨⟨#[109, 101, 109]⟩, 2, 0⟩, ⟨⟨#[103, 108, 111, 98]⟩, 3, 1⟩].map ExpP.cells) from o4)
  have BOX4 := Lib.hid (block_keep K4.out BOX.out HA3.out.he (by decide))
  clear o4 k4 q0 q1 q2 q3 q4 q5 q6
  obtain ⟨q0, q1, q2, q3, q4, q5, q6⟩ := box7 BOX4.out
  have zf : ∀ j, w4.frozen? ⟨w2.heap.size, j, none⟩ = false := fun j => frozen_of_row w4 _ j _ _ BOX4.out
  go_wp2_with fail
  have KS : Keeps (fun j => j = w2.heap.size) w4 (w4.setCell ⟨w2.heap.size, 4, none⟩ (.slice a4 3 p4)) := Keeps.setCell w4 ⟨w2.heap.size, 4, none⟩ _ rfl
  have hP := ((parts_of HA3.out).keep K4.out HA3.out.he (by decide)).keep KS BOX4.out (by decide)
  have hM := block_keep KS (block_keep K4.out HA3.out.hm HA3.out.he (by decide)) BOX4.out (by decide)
  have hO : OwnAt (w4.setCell ⟨w2.heap.size, 4, none⟩ (.slice a4 3 p4)) be 45 3 (.slice a4 3 p4) ([expF, ⟨⟨#[109, 101, 109]⟩, 2, 0⟩, ⟨⟨#[103, 108, 111, 98]⟩, 3, 1⟩].map ExpP.cells) := ⟨row_keep KS O4.out.1 BOX4.out (by decide), O4.out.2⟩
  have h4 := keeps_below K4.out HLow.out.2.1 B3.out.size
  have h5 := keeps_below KS HW2.out (Nat.le_trans B3.out.size h4.size)
  have K5 := Lib.hid (B3.out.trans (h4.trans h5))
  clear h4 h5
  refine (module_any _ _ _ _ _ _ _ (mkM 0 [⟨1, 2⟩] [expF, ⟨⟨#[109, 101, 109]⟩, 2, 0⟩, ⟨⟨#[103, 108, 111, 98]⟩, 3, 1⟩] (-1) C) _ ((hP).mod (mems_block hM) (own_list hO (by decide) (show 3 ≤ 1000000000 by decide) (fun x hx => ⟨rfl, by simp only [List.mem_cons, List.mem_nil_iff, or_false] at hx; rcases hx with rfl | rfl | rfl <;> (first | decide | exact (show 1 ≤ 9223372036854775807 by decide))⟩))) (HE.out.later K5.out) (fun x hx => (by obtain rfl := List.mem_singleton.1 hx; show (C.map toL).length ≤ _; rw [List.length_map]; have := HLn.out; omega))).mono ?_
  rw [HLaw.out]
  rintro e w9 ⟨rfl, c9⟩
  have K9 := Lib.hid ((K5.out).trans (c9.mono (K5.out).size))
  clear c9
  go_wp2_with fail
  go_ret
  exact ⟨rfl, K9.out⟩
set_option maxRecDepth 100000 in
set_option maxHeartbeats 4000000 in
theorem modules_7 (l : List Step) (which n : Nat) (nm : ByteArray) (w : World) (hE : MEnv w) (hw8 : which < 256) (hn : n < 4294967296) (la : Option Addr) (lc : Nat) (hcap : l.length ≤ lc) (hv : StepsAt w (.slice la l.length lc) l) (hk : which % 8 = 7) :
    Calls Tryz.prog 4 #[.slice la l.length lc, .int .u8 (which : Int), .string nm, .int .u32 (n : Int)] w fun e w' => e = .returned (.bool true) ∧ Below w.heap.size w w' := by
  have hv2 := hv
  obtain ⟨_, _, _, hle, -⟩ := hv2.form
  have HX := Lib.hid (examples07 w hE)
  have HV := Lib.hid hv
  have HE := Lib.hid hE
  have HK := Lib.hid hk
  obtain ⟨v, hvv⟩ : ∃ v, n % 1000 = v := ⟨_, rfl⟩
  have hv3 : v < 1000 := by omega
  have hvI : (n : Int) % 1000 = (v : Int) := by omega
  clear hE hv hv2 hk hvv
  obtain ⟨M, hM⟩ : ∃ M, min l.length 20 = M := ⟨_, rfl⟩
  have hM1 : M ≤ l.length := by omega
  have hM2 : M ≤ lc := by omega
  have hM3 : min (l.length : Int) 20 = (M : Int) := by omega
  have HMM := Lib.hid hM
  clear hM
  have t0 : ((which : Int) % 8 == 0) = false := by have := HK.out; simp; omega
  have t1 : ((which : Int) % 8 == 1) = false := by have := HK.out; simp; omega
  have t2 : ((which : Int) % 8 == 2) = false := by have := HK.out; simp; omega
  have t3 : ((which : Int) % 8 == 3) = false := by have := HK.out; simp; omega
  have t4 : ((which : Int) % 8 == 4) = false := by have := HK.out; simp; omega
  have t5 : ((which : Int) % 8 == 5) = false := by have := HK.out; simp; omega
  have t6 : ((which : Int) % 8 == 6) = false := by have := HK.out; simp; omega
  go_enter Tryz.func4, Tryz.ntmps4
  go_wp2_with fail
  refine HX.out.mono ?_
  rintro e w1 ⟨rfl, c1⟩
  have C1 := Lib.hid c1
  clear c1
  go_wp2_with fail
  refine (made_any _ (l.take 20) w1 (ListAt.take (HV.out.later (fun _ _ _ _ h _ => h) C1.out) 20 M (by rw [List.length_take, ← HMM.out]; omega)) (made_opsWf _)).mono ?_
  rintro e w2 ⟨⟨bt, bf, bm, bg, be, bd, cv, rfl, hA⟩, c2⟩
  have HLn := Lib.hid (made_len (l.take 20))
  have HLaw := Lib.hid (mk_7 (l.take 20))
  obtain ⟨C, hC⟩ : ∃ C, (madeP (l.take 20)).code = C := ⟨_, rfl⟩
  rw [hC] at hA HLn HLaw
  clear hC
  obtain ⟨w3, hw3⟩ : ∃ w3, w2.alloc (.cells #[.slice (some ⟨bt, 0, none⟩) 1 1, .slice (some ⟨bf, 0, none⟩) 1 1, .slice (some ⟨bm, 0, none⟩) 1 1, .slice (some ⟨bg, 0, none⟩) 2 2, .slice (some ⟨be, 0, none⟩) 1 1, .int .i64 (-1), .slice (some ⟨bd, 0, none⟩) 1 1] 31) = w3 := ⟨_, rfl⟩
  have k3 : Below w2.heap.size w2 w3 := by rw [← hw3]; exact below1 _ _
  have hbox : w3.heap[w2.heap.size]? = some (.cells #[.slice (some ⟨bt, 0, none⟩) 1 1, .slice (some ⟨bf, 0, none⟩) 1 1, .slice (some ⟨bm, 0, none⟩) 1 1, .slice (some ⟨bg, 0, none⟩) 2 2, .slice (some ⟨be, 0, none⟩) 1 1, .int .i64 (-1), .slice (some ⟨bd, 0, none⟩) 1 1] 31 (0, 0)) := by rw [← hw3]; exact heap_alloc_new _ _
  have HA3 := Lib.hid (hA.later k3)
  have B3 := Lib.hid (C1.out.trans ((c2.trans (k3.mono c2.size)).mono C1.out.size))
  have BOX := Lib.hid hbox
  have HW2 := Lib.hid (Nat.le_trans C1.out.size c2.size)
  have HW1 := Lib.hid (C1.out.size)
  unfold madeV modV slV
  clear hA c2 k3 hbox
  go_upto_region 5 with fail
  clear hw3
  have hlow : w.heap.size ≤ bm ∧ w.heap.size ≤ be ∧ w.heap.size ≤ bf := by have := HA3.out.low; have := HW1.out; omega
  have HLow := Lib.hid hlow
  have hsz3 : bm < w3.heap.size ∧ be < w3.heap.size ∧ bf < w3.heap.size := ⟨(Array.getElem?_eq_some_iff.1 HA3.out.hm).1, (Array.getElem?_eq_some_iff.1 HA3.out.he).1, (Array.getElem?_eq_some_iff.1 HA3.out.hf).1⟩
  have HS3 := Lib.hid hsz3
  clear hlow hsz3
  obtain ⟨q0, q1, q2, q3, q4, q5, q6⟩ := box7 BOX.out
  have zm : ∀ j, w3.frozen? ⟨bf, j, none⟩ = false := fun j => frozen_of_row w3 _ j _ _ HA3.out.hf
  have z0 := box_at HA3.out.hf 0 _ rfl
  have hne : ¬ w2.heap.size = bf := fun e => by
    have h1 := BOX.out
    rw [e, HA3.out.hf] at h1
    simp at h1
  have hne2 : ¬ bf = w2.heap.size := fun e => hne e.symm
  go_wp2_with fail
  have KS : Keeps (fun j => j = bf) w3 (w3.setCell ⟨bf, 0, none⟩ (.int .i64 1)) := Keeps.setCell w3 ⟨bf, 0, none⟩ _ rfl
  have hP := (parts_of HA3.out).setTy 1
  have hM := block_keep KS HA3.out.hm HA3.out.hf (by decide)
  have hX := block_keep KS HA3.out.he HA3.out.hf (by decide)
  have K5 := Lib.hid (B3.out.trans (keeps_below KS HLow.out.2.2 B3.out.size))
  refine (module_any _ _ _ _ _ _ _ (mkM 1 [⟨1, 2⟩] [expF] (-1) C) _ ((hP).mod (mems_block hM) (exps_block hX)) (HE.out.later K5.out) (fun x hx => (by obtain rfl := List.mem_singleton.1 hx; show (C.map toL).length ≤ _; rw [List.length_map]; have := HLn.out; omega))).mono ?_
  rw [HLaw.out]
  rintro e w9 ⟨rfl, c9⟩
  have K9 := Lib.hid ((K5.out).trans (c9.mono (K5.out).size))
  clear c9
  go_wp2_with fail
  go_ret
  exact ⟨rfl, K9.out⟩
theorem modules_walk (l : List Step) (which n : Nat) (nm : ByteArray) (w : World) (hE : MEnv w) (hw8 : which < 256) (hn : n < 4294967296) (la : Option Addr) (lc : Nat) (hcap : l.length ≤ lc) (hv : StepsAt w (.slice la l.length lc) l) :
    Calls Tryz.prog 4 #[.slice la l.length lc, .int .u8 (which : Int), .string nm, .int .u32 (n : Int)] w fun e w' => e = .returned (.bool true) ∧ Below w.heap.size w w' := by
  rcases (show which % 8 = 0 ∨ which % 8 = 1 ∨ which % 8 = 2 ∨ which % 8 = 3 ∨ which % 8 = 4 ∨ which % 8 = 5 ∨ which % 8 = 6 ∨ which % 8 = 7 by omega) with h | h | h | h | h | h | h | h
  · exact modules_0 l which n nm w hE hw8 hn la lc hcap hv h
  · exact modules_1 l which n nm w hE hw8 hn la lc hcap hv h
  · exact modules_2 l which n nm w hE hw8 hn la lc hcap hv h
  · exact modules_3 l which n nm w hE hw8 hn la lc hcap hv h
  · exact modules_4 l which n nm w hE hw8 hn la lc hcap hv h
  · exact modules_5 l which n nm w hE hw8 hn la lc hcap hv h
  · exact modules_6 l which n nm w hE hw8 hn la lc hcap hv h
  · exact modules_7 l which n nm w hE hw8 hn la lc hcap hv h
end Go.Proofs.YthcjgdmmpopplaaGreatDoor.Vld
