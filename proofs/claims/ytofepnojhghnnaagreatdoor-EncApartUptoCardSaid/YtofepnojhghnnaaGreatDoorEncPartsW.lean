/-
  The law of parts: a function's instructions stand in the module's bytes. No condition beyond what each theorem names.
-/
import Derived.Test.YtofepnojhghnnaaGreatDoorEncMade
namespace Go.Proofs.YtofepnojhghnnaaGreatDoor.Enc
open Go.RowKit Go.Maps Go.Proofs.YtofepnojhghnnaaGreatDoor.Op Go.Proofs.YtofepnojhghnnaaGreatDoor.Mod Go.Proofs.YtofepnojhghnnaaGreatDoor.Leb Go.Proofs.YtofepnojhghnnaaGreatDoor.Bytes Go.Proofs.YtofepnojhghnnaaGreatDoor.Pg
set_option linter.unusedVariables false
theorem enc_room (l : List Step) (h : ∀ t ∈ l, -9223372036854775808 ≤ t.a ∧ t.a ≤ 9223372036854775807) : (modL (modOf (madeP l).code)).length ≤ 140737488350000 := by
  have h1 := modOf_len (made_wf l h)
  have h2 := made_len2 l
  omega
theorem encI_made {l : List Step} {x : Ins} (h : x ∈ (madeP l).code) : encI (toL x) = (insL (toL x), true) := by
  have h2 : rightIns (toL x) = true := made_oks l x h
  unfold encI
  rw [h2, if_pos rfl]
/-- a piece of a string, held against another -/
theorem run_cut (s : ByteArray) (lo hi : Nat) (h1 : lo ≤ hi) (h2 : hi ≤ s.size) (w : World) : (Instr.slice 9 (.string s) (some (.int .i64 (lo : Int))) (some (.int .i64 (hi : Int))) none).run Tryz.prog w = .ok (.string (s.extract lo hi)) w := by
  have ht := Tryz.underlying9
  simp [Instr.slice, run_underlying ht, Instr.sliceBounds, run_sliceBound, *]
theorem cut_data (s : ByteArray) (lo hi : Nat) : (s.extract lo hi).data.toList = (s.data.toList.drop lo).take (hi - lo) := by
  rw [ByteArray.data_extract, Array.toList_extract]
  first | done | simp [List.extract]
theorem cut_found {S : List UInt8} {pre A post : List UInt8} (h : S = pre ++ A ++ post) : (bs S).extract pre.length (pre.length + A.length) = bs A := by
  have h2 : ((bs S).extract pre.length (pre.length + A.length)).data.toList = A := by
    rw [cut_data, bs_data, h, show pre.length + A.length - pre.length = A.length by omega, List.append_assoc, List.drop_left, List.take_left]
  rw [← bs_self ((bs S).extract pre.length (pre.length + A.length)), h2]
set_option maxRecDepth 100000 in
set_option maxHeartbeats 8000000 in
theorem parts_law (v : Value) (l : List Step) (w : World) (hl : StepsAt w v l) (hwf : ∀ t ∈ l, -9223372036854775808 ≤ t.a ∧ t.a ≤ 9223372036854775807) (hE : MEnv w) :
    Calls Tryz.prog 6 #[v] w fun e w' => e = .returned (.bool true) ∧ Below w.heap.size w w' := by
  have HEX := Lib.hid (examples05 w hE)
  have HM := Lib.hid (fun (W : World) (hW : Below w.heap.size w W) => made_any v l W (ListAt.later (fun _ _ _ _ h _ => h) hl hW) (made_opsWf l))
  have HEN := Lib.hid (fun (W : World) (hW : Below w.heap.size w W) => hE.later hW)
  have HOK := Lib.hid (wok_modOf (made_wf l hwf) (by have := made_len2 l; omega))
  have HRM := Lib.hid (enc_room l hwf)
  have HEM := Lib.hid (enc_made l hwf)
  have HLN := Lib.hid (made_len2 l)
  have HWF := Lib.hid (show ∀ x ∈ (madeP l).code, InsWf x from made_wf l hwf)
  have HEI := Lib.hid (fun (x : Ins) (hx : x ∈ (madeP l).code) => encI_made hx)
  have HMB := Lib.hid (modOf_bytes (madeP l).code)
  obtain ⟨C, hC⟩ : ∃ C, (madeP l).code = C := ⟨_, rfl⟩
  have HFL := Lib.hid (flat_len (made_wf l hwf))
  rw [hC] at HM HOK HRM HEM HLN HWF HEI HMB HFL
  have HSL := Lib.hid (show (modL (modOf C)).length ≤ 100000 by have h1 := modOf_len HWF.out; have h2 := HLN.out; omega)
  obtain ⟨la, lc, rfl, _⟩ := hl.form
  clear hl hwf hE hC
  go_enter Tryz.func6, Tryz.ntmps6
  go_wp2_with fail
  refine HEX.out.mono ?_
  rintro e w1 ⟨rfl, c1⟩
  have C1 := Lib.hid c1
  clear c1
  go_wp2_with fail
  refine (HM.out w1 C1.out).mono ?_
  rintro e w2 ⟨⟨bt, bf, bm, bg, be, bd, cv, rfl, hA⟩, c2⟩
  have C2 := Lib.hid (C1.out.trans (c2.mono C1.out.size))
  obtain ⟨W3, hW3⟩ : ∃ W3, w2.alloc (.cells #[slV bt 1, slV bf 1, slV bm 1, slV bg 2, slV be 1, .int .i64 (-1), slV bd 1] 29) = W3 := ⟨_, rfl⟩
  have B3 : Below w2.heap.size w2 W3 := by rw [← hW3]; exact (Below.refl _ _).alloc (Nat.le_refl _) _
  have hrow : W3.heap[w2.heap.size]? = some (.cells #[slV bt 1, slV bf 1, slV bm 1, slV bg 2, slV be 1, .int .i64 (-1), slV bd 1] 29 (0, 0)) := by rw [← hW3]; exact heap_alloc_new _ _
  have HA := Lib.hid (hA.later B3)
  have C3 := Lib.hid (C2.out.trans (B3.mono C2.out.size))
  have HROW := Lib.hid hrow
  have HW3 := Lib.hid hW3
  clear c2 hA hW3 B3 hrow
  have henc := enc_own _ _ _ _ _ _ _ _ W3 (HEN.out W3 C3.out) HA.out.mod (fun _ => HOK.out) (fun _ => HRM.out)
  rw [HEM.out] at henc
  have HENC := Lib.hid henc
  clear henc
  have q0 : W3.cell? ⟨w2.heap.size, 0, none⟩ = some (slV bt 1) := cell_of_row W3 _ 0 _ _ _ HROW.out
  have q1 : W3.cell? ⟨w2.heap.size, 1, none⟩ = some (slV bf 1) := cell_of_row W3 _ 1 _ _ _ HROW.out
  have q2 : W3.cell? ⟨w2.heap.size, 2, none⟩ = some (slV bm 1) := cell_of_row W3 _ 2 _ _ _ HROW.out
  have q3 : W3.cell? ⟨w2.heap.size, 3, none⟩ = some (slV bg 2) := cell_of_row W3 _ 3 _ _ _ HROW.out
  have q4 : W3.cell? ⟨w2.heap.size, 4, none⟩ = some (slV be 1) := cell_of_row W3 _ 4 _ _ _ HROW.out
  have q5 : W3.cell? ⟨w2.heap.size, 5, none⟩ = some (.int .i64 (-1)) := cell_of_row W3 _ 5 _ _ _ HROW.out
  have q6 : W3.cell? ⟨w2.heap.size, 6, none⟩ = some (slV bd 1) := cell_of_row W3 _ 6 _ _ _ HROW.out
  unfold madeV modV
  unfold modV at HENC
  unfold slV at q0 q1 q2 q3 q4 q6 HW3 HENC ⊢
  go_upto_region 5 with fail
  rw [HW3.out]
  go_wp2_with fail
  refine HENC.out.mono ?_
  rintro e w4 ⟨rfl, c4⟩
  have C4 := Lib.hid (C3.out.trans (c4.mono C3.out.size))
  have HA4 := Lib.hid (HA.out.later c4)
  replace q1 := cell_later c4 q1
  clear c4 q0 q2 q3 q4 q5 q6
  obtain ⟨cla, ccp, hcv⟩ : ∃ cla ccp, cv = .slice cla C.length ccp := by
    rcases Go.Joins.ownsRow_forms HA4.out.hc with ⟨h1, h2⟩ | ⟨g, cap, h1⟩
    · exact ⟨none, 0, by rw [h1, h2]⟩
    · exact ⟨_, cap, h1⟩
  subst hcv
  have p2 : w4.cell? ⟨bf, 2, none⟩ = some (.slice cla C.length ccp) := cell_of_row w4 _ 2 _ _ _ HA4.out.hf
  have HCD := Lib.hid (code_at HA4.out.hc HA4.out.room HA4.out.wf)
  obtain ⟨S, hS⟩ : ∃ S, bs (modL (modOf C)) = S := ⟨_, rfl⟩
  have HS := Lib.hid hS
  dsimp only
  rw [hS]
  clear hS
  go_wp2_with fail
  go_loopg [7, 8] C.length (fun gk s7 s8 wr => ∃ k : Nat, k ≤ C.length ∧ C.length - k ≤ gk ∧ s7 = .string (bs (((C.take k).map toL).flatMap insL)) ∧ s8 = .int .i64 (k : Int) ∧ Hid (Below w4.heap.size w4 wr))
  case atStart => exact ⟨0, Nat.zero_le _, by omega, rfl, rfl, Lib.hid (Below.refl _ _)⟩
  case round =>
    obtain ⟨k, hk, hg, rfl, rfl, HB⟩ := hrel
    have r1 := cell_later HB.out q1
    have r2 := cell_later HB.out p2
    by_cases hlt : k < C.length
    · obtain ⟨x, hx⟩ : ∃ x, C[k]? = some x := ⟨_, List.getElem?_eq_getElem hlt⟩
      have hxm : x ∈ C := List.mem_of_getElem? hx
      obtain ⟨la2, cp2, hv2, _, hcells⟩ := HCD.out.form
      obtain ⟨rfl, rfl⟩ : cla = la2 ∧ ccp = cp2 := by simp only [Value.slice.injEq] at hv2; exact ⟨hv2.1, hv2.2.2⟩
      obtain ⟨r, ⟨lv, rfl, hlv, hop⟩, _, b, off, rfl, hb, hcell⟩ := hcells k (toL x) (by rw [List.getElem?_map, hx]; rfl)
      obtain ⟨lla, llc, rfl⟩ := intsAt_form hlv
      have x0 := cell_later HB.out (hcell 0 _ rfl)
      have x1 := cell_later HB.out (hcell 1 _ rfl)
      have x2 := cell_later HB.out (hcell 2 _ rfl)
      have x3 := cell_later HB.out (hcell 3 _ rfl)
      rw [Nat.add_zero] at x0
      have hcall := encI_any (toL x) _ wr (HEN.out wr (C4.out.trans (HB.out.mono C4.out.size))).op (intsAt_later hlv HB.out) hop (toL_ok (HWF.out x hxm)).a
      rw [HEI.out x hxm] at hcall
      dsimp only at hcall
      have HTK := Lib.hid (show ((C.take (k + 1)).map toL).flatMap insL = ((C.take k).map toL).flatMap insL ++ insL (toL x) by rw [List.take_add_one, hx, List.map_append, List.flatMap_append]; simp)
      have hsz : (((C.take k).map toL).flatMap insL).length ≤ 100000 := by
        have h1 := flat_len (c := C.take k) (fun y hy => HWF.out y (List.mem_of_mem_take hy))
        have h2 := HLN.out
        rw [List.length_take] at h1
        have h3 : min k C.length ≤ 1300 := by omega
        omega
      have hsz2 := toL_len (HWF.out x hxm)
      obtain ⟨X, hX⟩ : ∃ X, bs (((C.take k).map toL).flatMap insL) = X := ⟨_, rfl⟩
      obtain ⟨Y, hY⟩ : ∃ Y, bs (insL (toL x)) = Y := ⟨_, rfl⟩
      have hz : ¬ 9223372036854775807 < X.size + Y.size := by rw [← hX, ← hY, bs_size, bs_size]; omega
      have HXY := Lib.hid (show X ++ Y = bs (((C.take (k + 1)).map toL).flatMap insL) by rw [HTK.out, ← bs_app, hX, hY])
      rw [hY] at hcall
      rw [hX]
      have hltz : (k : Int) < (C.length : Int) := by omega
      have hCl : C.length ≤ 1300 := HLN.out
      have HC := Lib.hid hcall
      clear hX hY hsz hsz2 hcall hcell hcells hlv hop hx
      go_wp2_with fail
      refine HC.out.mono ?_
      rintro e w5 ⟨rfl, c5⟩
      have HB5 := Lib.hid (HB.out.trans (c5.mono HB.out.size))
      clear c5
      go_wp2_with fail
      go_roundg (C.length - (k + 1))
      case measure => omega
      case rel => exact ⟨k + 1, by omega, by omega, by rw [← HXY.out], by go_num, HB5⟩
    · obtain rfl : k = C.length := by omega
      have hltz : ¬ (C.length : Int) < (C.length : Int) := by omega
      have HTK := Lib.hid (show C.take C.length = C from List.take_length)
      rw [HTK.out]
      obtain ⟨pre, post, hpp⟩ : ∃ pre post, modL (modOf C) = pre ++ (C.map toL).flatMap insL ++ post := by
        obtain ⟨n1, hn1⟩ : ∃ n1 : Int, (((numL 1 ++ codB ((C.map toL).flatMap insL)).length : Nat) : Int) = n1 := ⟨_, rfl⟩
        obtain ⟨n2, hn2⟩ : ∃ n2 : Int, (((localsL [127, 126] ++ (C.map toL).flatMap insL).length : Nat) : Int) = n2 := ⟨_, rfl⟩
        refine ⟨preM 0 ++ [10] ++ numL n1 ++ numL 1 ++ numL n2 ++ localsL [127, 126], dataB, ?_⟩
        have e : modL (modOf C) = preM 0 ++ (10 :: (numL n1 ++ (numL 1 ++ (numL n2 ++ (localsL [127, 126] ++ (C.map toL).flatMap insL))))) ++ dataB := by
          rw [HMB.out, ← hn1, ← hn2]
          rfl
        rw [e]
        simp only [List.append_assoc, List.cons_append, List.nil_append]
      have hXl := HFL.out
      have hSl : S.size = (modL (modOf C)).length := by rw [← HS.out, bs_size]
      obtain ⟨X, hX⟩ : ∃ X, bs ((C.map toL).flatMap insL) = X := ⟨_, rfl⟩
      have hXs : X.size = ((C.map toL).flatMap insL).length := by rw [← hX, bs_size]
      have hcut : S.extract pre.length (pre.length + X.size) = X := by rw [← HS.out, hXs, ← hX]; exact cut_found hpp
      have hfit : pre.length + X.size ≤ S.size := by
        rw [hSl, hXs, hpp]
        simp only [List.length_append]
        omega
      have HSS := Lib.hid (show S.size ≤ 100000 by rw [hSl]; exact HSL.out)
      obtain ⟨P, hP⟩ : ∃ P, pre.length = P := ⟨_, rfl⟩
      rw [hP] at hcut hfit
      have HCUT := Lib.hid hcut
      have HFIT := Lib.hid hfit
      rw [hX]
      obtain ⟨N, hN⟩ : ∃ N, X.size = N := ⟨_, rfl⟩
      obtain ⟨M, hM⟩ : ∃ M, S.size = M := ⟨_, rfl⟩
      rw [hN] at HCUT HFIT
      rw [hM] at HFIT HSS
      have hnm : ¬ (M : Int) < (N : Int) := by have := HFIT.out; omega
      have HNS := Lib.hid hN
      have HMS := Lib.hid hM
      clear hXl hSl hX hXs hcut hfit hP hpp
      go_wp2_with fail
      clear hltz r1 r2
      go_loopg [11] (P + 1) (fun gk s11 wr2 => ∃ j : Nat, j ≤ P ∧ P + 1 - j ≤ gk ∧ s11 = .int .i64 (j : Int) ∧ wr = wr2)
      case atStart => exact ⟨0, Nat.zero_le _, by omega, rfl, rfl⟩
      case round =>
        obtain ⟨j, hj, hg2, rfl, rfl⟩ := hrel
        have HA2 := Lib.hid (show j + N ≤ S.size by have h1 := HFIT.out; have h3 := HMS.out; omega)
        have HJB := Lib.hid (show j ≤ 100000 by have h1 := HFIT.out; have h3 := HSS.out; omega)
        have HWJ := Lib.hid (show wrap64 ((j : Int) + 1) = ((j + 1 : Nat) : Int) by have h1 := HJB.out; unfold wrap64; omega)
        have hjn : (j : Int) + (N : Int) ≤ (M : Int) := by have := HFIT.out; omega
        have hw64 : wrap64 ((j : Int) + (N : Int)) = (j : Int) + (N : Int) := by have := HFIT.out; have := HSS.out; unfold wrap64; omega
        go_upto_region 19 with fail
        have hcutj := run_cut S j (j + N) (Nat.le_add_right _ _) HA2.out wr
        rw [show ((j + N : Nat) : Int) = (j : Int) + (N : Int) from Int.natCast_add _ _] at hcutj
        by_cases he : S.extract j (j + N) = X
        · rw [he] at hcutj
          have hee : (X.toList == X.toList) = true := by simp
          clear he
          go_wp2_with fail
          go_ret
          exact ⟨rfl, C4.out.trans (HB.out.mono C4.out.size)⟩
        · have hjp : j < P := by
            rcases Nat.lt_or_ge j P with h | h
            · exact h
            · obtain rfl : j = P := Nat.le_antisymm hj h
              exact absurd HCUT.out he
          obtain ⟨Z, hZ⟩ : ∃ Z, S.extract j (j + N) = Z := ⟨_, rfl⟩
          rw [hZ] at hcutj he
          have hee : (Z.toList == X.toList) = false := by
            rw [ByteArray.toList_eq, ByteArray.toList_eq, beq_eq_false_iff_ne]
            intro h
            exact he (by rw [← bs_self Z, h, bs_self])
          clear he hZ
          go_wp2_with fail
          go_roundg (P + 1 - (j + 1))
          case measure => omega
          case rel => exact ⟨j + 1, hjp, Nat.le_refl _, by rw [HWJ.out], rfl⟩
end Go.Proofs.YtofepnojhghnnaaGreatDoor.Enc
