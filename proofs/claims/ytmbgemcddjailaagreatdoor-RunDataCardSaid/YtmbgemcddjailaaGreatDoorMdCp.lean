/-
  ModList, ModCopyA, ModSamePl, ModCopyH, ModCopyW, ModCopyX, ModCopyY, ModCopyZ, ModCopyB, ModCopyC in one.
-/
import Derived.Test.YtmbgemcddjailaaGreatDoorModOwn
import Derived.Laws.MakeOwn
import Derived.Deep.RegionHeld3
import Derived.Deep.DeepCutAuto
import Derived.Test.YtmbgemcddjailaaGreatDoorModMem
import Derived.Deep.QuietTactic
import Derived.BigQuiet
import Derived.Deep.LoopGhost
import Derived.Deep.CutRange
/- ModList: What package module's list answers: a new row of the same cells. No condition but that the row has room. -/
namespace Go.Proofs.YtmbgemcddjailaaGreatDoor.Mod
open Go.RowKit Go.Maps Go.Proofs.YtmbgemcddjailaaGreatDoor.Op
set_option linter.unusedVariables false
theorem linfo_ft : (Tryz.prog.info? 25).map (fun i => (i.zero, i.size, i.bytes)) = some (some (.agg #[.string ⟨#[]⟩, .string ⟨#[]⟩]), 2, 32) := by kernel_rfl
set_option maxRecDepth 100000 in
set_option maxHeartbeats 1000000 in
theorem list_ft (la : Option Addr) (c : Nat) (rows : List (List Value)) (w : World) (h : RowAt w 2 (.slice la rows.length c) rows) (hone : ∀ u ∈ rows.flatten, u.oneCell' = true) (hroom : rows.length * 32 ≤ 140737488355328) :
    Calls Tryz.prog 33 #[.slice la rows.length c] w fun e w' => (∃ v, e = .returned v ∧ w'.ownsRow w.heap.size 25 2 v rows.length rows.flatten) ∧ Below w.heap.size w w' := by
  obtain ⟨i0, hi, hz0, hz1, hz2⟩ := info_of linfo_ft
  have hlen : ∀ r ∈ rows, r.length = 2 := fun r hx => by
    obtain ⟨_, _, _, _, hr⟩ := h
    obtain ⟨i, hi⟩ := List.getElem?_of_mem hx
    exact (hr i r hi).1
  obtain ⟨n, hn⟩ : ∃ n, rows.length = n := ⟨_, rfl⟩
  have HFL := Lib.hid (flat_len rows hlen)
  have HN := Lib.hid hn
  obtain ⟨MK, hMK⟩ : ∃ MK, madeCells (.agg #[.string ⟨#[]⟩, .string ⟨#[]⟩] : Value).cells (n * 2) = MK := ⟨_, rfl⟩
  have hms : MK.size = n * 2 := by rw [← hMK, size_madeCells]
  have hmk : ∀ W, (Instr.makeSlice 26 (.int .i64 0) (.int .i64 (n : Int))).run Tryz.prog W = .ok (.slice (some ⟨W.heap.size, 0, none⟩) 0 n) (W.alloc (.cells MK 25)) := fun W => by
    have := run_make (P := Tryz.prog) W 26 25 i0 (.agg #[.string ⟨#[]⟩, .string ⟨#[]⟩]) Tryz.underlying26 hi hz0 .i64 .i64 0 (n : Int) (by omega) (by omega) (by rw [hz2]; omega) (by omega)
    rw [this, hz1, show ((n : Nat) : Int).toNat = n by omega, hMK]
    rfl
  have HM := Lib.hid (show (w.alloc (.cells MK 25)).ownsRow w.heap.size 25 2 (.slice (some ⟨w.heap.size, 0, none⟩) 0 n) 0 [] from World.ownsRow_made w MK n (Nat.le_refl _) (by unfold maxLen; omega) hms)
  have HB := Lib.hid ((Below.refl w.heap.size w).alloc (Nat.le_refl _) (.cells MK 25))
  have H := Lib.hid (h.later HB.out)
  have HONE := Lib.hid hone
  rw [hn] at h hroom ⊢
  have HSZ := Lib.hid (show (w.alloc (.cells MK 25)).heap.size = w.heap.size + 1 by simp)
  clear hMK hms hone hn hlen h
  have HL := Lib.hid (show 0 + n ≤ maxLen by unfold maxLen; omega)
  have HY := Lib.hid (show (0 + n) * 32 ≤ 140737488355328 by omega)
  have HZ := Lib.hid (show w.heap.size ≤ (w.alloc (.cells MK 25)).heap.size by rw [HSZ.out]; omega)
  rcases la with _ | ad
  · have hn0 : n = 0 := by
      rcases Nat.eq_zero_or_pos n with h0 | h0
      · exact h0
      · obtain ⟨la', c', hv, _, hr⟩ := H.out
        simp only [Value.slice.injEq] at hv
        obtain ⟨_, _, _, he, _⟩ := hr 0 _ (List.getElem?_eq_getElem (by rw [HN.out]; exact h0))
        rw [← hv.1] at he
        cases he
    subst hn0
    have hfl : rows.flatten = [] := List.eq_nil_of_length_eq_zero (by rw [HFL.out, HN.out, Nat.zero_mul])
    have hrn : (Builtin.append_ #[26, 26] 26 #[.slice (some ⟨w.heap.size, 0, none⟩) 0 0, .slice none 0 c]).run Tryz.prog (w.alloc (.cells MK 25)) = .ok (.slice (some ⟨w.heap.size, 0, none⟩) 0 0) (w.alloc (.cells MK 25)) := by
      simp [Builtin.append_, run_underlying Tryz.underlying26, sizeOf, typeInfo, hi, Builtin.lenOf, Builtin.firstCells, storeCells]
    rw [hfl]
    have hmk0 : ∀ W, (Instr.makeSlice 26 (.int .i64 0) (.int .i64 0)).run Tryz.prog W = .ok (.slice (some ⟨W.heap.size, 0, none⟩) 0 0) (W.alloc (.cells MK 25)) := hmk
    clear hmk hfl
    go_enter Tryz.func33, Tryz.ntmps33
    go_wp2_with fail
    go_ret
    exact ⟨⟨_, rfl, HM.out⟩, HB.out⟩
  · have HNEW := Lib.hid (row_news (by decide) H.out)
    go_enter Tryz.func33, Tryz.ntmps33
    go_wp2_with (at_builtin; refine wpList_append_own _ rfl _ _ 26 rfl w.heap.size 25 i0 (.agg #[.string ⟨#[]⟩, .string ⟨#[]⟩]) 2 32 Tryz.underlying26 hi hz0 hz1 hz2 rfl (by decide) _ 0 [] rfl HM.out ad n c rows.flatten rfl (by rw [HFL.out, HN.out]) HNEW.out HONE.out HL.out HY.out HZ.out ?_)
    intro v' w1 hown hgrow _
    have HB1 := Lib.hid (HB.out.grown hgrow (by rw [HSZ.out]; omega) (fun k hk => (HM.out.lt k hk).1))
    have HO := Lib.hid (show w1.ownsRow w.heap.size 25 2 v' n rows.flatten by simpa using hown)
    clear hown hgrow
    go_wp2_with fail
    go_ret
    exact ⟨⟨_, rfl, HO.out⟩, HB1.out⟩
theorem linfo_func : (Tryz.prog.info? 32).map (fun i => (i.zero, i.size, i.bytes)) = some (some (.agg #[.int .i64 0, .string ⟨#[]⟩, .slice none 0 0]), 3, 48) := by kernel_rfl
set_option maxRecDepth 100000 in
set_option maxHeartbeats 1000000 in
theorem list_func (la : Option Addr) (c : Nat) (rows : List (List Value)) (w : World) (h : RowAt w 3 (.slice la rows.length c) rows) (hone : ∀ u ∈ rows.flatten, u.oneCell' = true) (hroom : rows.length * 48 ≤ 140737488355328) :
    Calls Tryz.prog 34 #[.slice la rows.length c] w fun e w' => (∃ v, e = .returned v ∧ w'.ownsRow w.heap.size 32 3 v rows.length rows.flatten) ∧ Below w.heap.size w w' := by
  obtain ⟨i0, hi, hz0, hz1, hz2⟩ := info_of linfo_func
  have hlen : ∀ r ∈ rows, r.length = 3 := fun r hx => by
    obtain ⟨_, _, _, _, hr⟩ := h
    obtain ⟨i, hi⟩ := List.getElem?_of_mem hx
    exact (hr i r hi).1
  obtain ⟨n, hn⟩ : ∃ n, rows.length = n := ⟨_, rfl⟩
  have HFL := Lib.hid (flat_len rows hlen)
  have HN := Lib.hid hn
  obtain ⟨MK, hMK⟩ : ∃ MK, madeCells (.agg #[.int .i64 0, .string ⟨#[]⟩, .slice none 0 0] : Value).cells (n * 3) = MK := ⟨_, rfl⟩
  have hms : MK.size = n * 3 := by rw [← hMK, size_madeCells]
  have hmk : ∀ W, (Instr.makeSlice 33 (.int .i64 0) (.int .i64 (n : Int))).run Tryz.prog W = .ok (.slice (some ⟨W.heap.size, 0, none⟩) 0 n) (W.alloc (.cells MK 32)) := fun W => by
    have := run_make (P := Tryz.prog) W 33 32 i0 (.agg #[.int .i64 0, .string ⟨#[]⟩, .slice none 0 0]) Tryz.underlying33 hi hz0 .i64 .i64 0 (n : Int) (by omega) (by omega) (by rw [hz2]; omega) (by omega)
    rw [this, hz1, show ((n : Nat) : Int).toNat = n by omega, hMK]
    rfl
  have HM := Lib.hid (show (w.alloc (.cells MK 32)).ownsRow w.heap.size 32 3 (.slice (some ⟨w.heap.size, 0, none⟩) 0 n) 0 [] from World.ownsRow_made w MK n (Nat.le_refl _) (by unfold maxLen; omega) hms)
  have HB := Lib.hid ((Below.refl w.heap.size w).alloc (Nat.le_refl _) (.cells MK 32))
  have H := Lib.hid (h.later HB.out)
  have HONE := Lib.hid hone
  rw [hn] at h hroom ⊢
  have HSZ := Lib.hid (show (w.alloc (.cells MK 32)).heap.size = w.heap.size + 1 by simp)
  clear hMK hms hone hn hlen h
  have HL := Lib.hid (show 0 + n ≤ maxLen by unfold maxLen; omega)
  have HY := Lib.hid (show (0 + n) * 48 ≤ 140737488355328 by omega)
  have HZ := Lib.hid (show w.heap.size ≤ (w.alloc (.cells MK 32)).heap.size by rw [HSZ.out]; omega)
  rcases la with _ | ad
  · have hn0 : n = 0 := by
      rcases Nat.eq_zero_or_pos n with h0 | h0
      · exact h0
      · obtain ⟨la', c', hv, _, hr⟩ := H.out
        simp only [Value.slice.injEq] at hv
        obtain ⟨_, _, _, he, _⟩ := hr 0 _ (List.getElem?_eq_getElem (by rw [HN.out]; exact h0))
        rw [← hv.1] at he
        cases he
    subst hn0
    have hfl : rows.flatten = [] := List.eq_nil_of_length_eq_zero (by rw [HFL.out, HN.out, Nat.zero_mul])
    have hrn : (Builtin.append_ #[33, 33] 33 #[.slice (some ⟨w.heap.size, 0, none⟩) 0 0, .slice none 0 c]).run Tryz.prog (w.alloc (.cells MK 32)) = .ok (.slice (some ⟨w.heap.size, 0, none⟩) 0 0) (w.alloc (.cells MK 32)) := by
      simp [Builtin.append_, run_underlying Tryz.underlying33, sizeOf, typeInfo, hi, Builtin.lenOf, Builtin.firstCells, storeCells]
    rw [hfl]
    have hmk0 : ∀ W, (Instr.makeSlice 33 (.int .i64 0) (.int .i64 0)).run Tryz.prog W = .ok (.slice (some ⟨W.heap.size, 0, none⟩) 0 0) (W.alloc (.cells MK 32)) := hmk
    clear hmk hfl
    go_enter Tryz.func34, Tryz.ntmps34
    go_wp2_with fail
    go_ret
    exact ⟨⟨_, rfl, HM.out⟩, HB.out⟩
  · have HNEW := Lib.hid (row_news (by decide) H.out)
    go_enter Tryz.func34, Tryz.ntmps34
    go_wp2_with (at_builtin; refine wpList_append_own _ rfl _ _ 33 rfl w.heap.size 32 i0 (.agg #[.int .i64 0, .string ⟨#[]⟩, .slice none 0 0]) 3 48 Tryz.underlying33 hi hz0 hz1 hz2 rfl (by decide) _ 0 [] rfl HM.out ad n c rows.flatten rfl (by rw [HFL.out, HN.out]) HNEW.out HONE.out HL.out HY.out HZ.out ?_)
    intro v' w1 hown hgrow _
    have HB1 := Lib.hid (HB.out.grown hgrow (by rw [HSZ.out]; omega) (fun k hk => (HM.out.lt k hk).1))
    have HO := Lib.hid (show w1.ownsRow w.heap.size 32 3 v' n rows.flatten by simpa using hown)
    clear hown hgrow
    go_wp2_with fail
    go_ret
    exact ⟨⟨_, rfl, HO.out⟩, HB1.out⟩
theorem linfo_mem : (Tryz.prog.info? 55).map (fun i => (i.zero, i.size, i.bytes)) = some (some (.agg #[.int .i64 0, .int .i64 0]), 2, 16) := by kernel_rfl
set_option maxRecDepth 100000 in
set_option maxHeartbeats 1000000 in
theorem list_mem (la : Option Addr) (c : Nat) (rows : List (List Value)) (w : World) (h : RowAt w 2 (.slice la rows.length c) rows) (hone : ∀ u ∈ rows.flatten, u.oneCell' = true) (hroom : rows.length * 16 ≤ 140737488355328) :
    Calls Tryz.prog 35 #[.slice la rows.length c] w fun e w' => (∃ v, e = .returned v ∧ w'.ownsRow w.heap.size 55 2 v rows.length rows.flatten) ∧ Below w.heap.size w w' := by
  obtain ⟨i0, hi, hz0, hz1, hz2⟩ := info_of linfo_mem
  have hlen : ∀ r ∈ rows, r.length = 2 := fun r hx => by
    obtain ⟨_, _, _, _, hr⟩ := h
    obtain ⟨i, hi⟩ := List.getElem?_of_mem hx
    exact (hr i r hi).1
  obtain ⟨n, hn⟩ : ∃ n, rows.length = n := ⟨_, rfl⟩
  have HFL := Lib.hid (flat_len rows hlen)
  have HN := Lib.hid hn
  obtain ⟨MK, hMK⟩ : ∃ MK, madeCells (.agg #[.int .i64 0, .int .i64 0] : Value).cells (n * 2) = MK := ⟨_, rfl⟩
  have hms : MK.size = n * 2 := by rw [← hMK, size_madeCells]
  have hmk : ∀ W, (Instr.makeSlice 37 (.int .i64 0) (.int .i64 (n : Int))).run Tryz.prog W = .ok (.slice (some ⟨W.heap.size, 0, none⟩) 0 n) (W.alloc (.cells MK 55)) := fun W => by
    have := run_make (P := Tryz.prog) W 37 55 i0 (.agg #[.int .i64 0, .int .i64 0]) Tryz.underlying37 hi hz0 .i64 .i64 0 (n : Int) (by omega) (by omega) (by rw [hz2]; omega) (by omega)
    rw [this, hz1, show ((n : Nat) : Int).toNat = n by omega, hMK]
    rfl
  have HM := Lib.hid (show (w.alloc (.cells MK 55)).ownsRow w.heap.size 55 2 (.slice (some ⟨w.heap.size, 0, none⟩) 0 n) 0 [] from World.ownsRow_made w MK n (Nat.le_refl _) (by unfold maxLen; omega) hms)
  have HB := Lib.hid ((Below.refl w.heap.size w).alloc (Nat.le_refl _) (.cells MK 55))
  have H := Lib.hid (h.later HB.out)
  have HONE := Lib.hid hone
  rw [hn] at h hroom ⊢
  have HSZ := Lib.hid (show (w.alloc (.cells MK 55)).heap.size = w.heap.size + 1 by simp)
  clear hMK hms hone hn hlen h
  have HL := Lib.hid (show 0 + n ≤ maxLen by unfold maxLen; omega)
  have HY := Lib.hid (show (0 + n) * 16 ≤ 140737488355328 by omega)
  have HZ := Lib.hid (show w.heap.size ≤ (w.alloc (.cells MK 55)).heap.size by rw [HSZ.out]; omega)
  rcases la with _ | ad
  · have hn0 : n = 0 := by
      rcases Nat.eq_zero_or_pos n with h0 | h0
      · exact h0
      · obtain ⟨la', c', hv, _, hr⟩ := H.out
        simp only [Value.slice.injEq] at hv
        obtain ⟨_, _, _, he, _⟩ := hr 0 _ (List.getElem?_eq_getElem (by rw [HN.out]; exact h0))
        rw [← hv.1] at he
        cases he
    subst hn0
    have hfl : rows.flatten = [] := List.eq_nil_of_length_eq_zero (by rw [HFL.out, HN.out, Nat.zero_mul])
    have hrn : (Builtin.append_ #[37, 37] 37 #[.slice (some ⟨w.heap.size, 0, none⟩) 0 0, .slice none 0 c]).run Tryz.prog (w.alloc (.cells MK 55)) = .ok (.slice (some ⟨w.heap.size, 0, none⟩) 0 0) (w.alloc (.cells MK 55)) := by
      simp [Builtin.append_, run_underlying Tryz.underlying37, sizeOf, typeInfo, hi, Builtin.lenOf, Builtin.firstCells, storeCells]
    rw [hfl]
    have hmk0 : ∀ W, (Instr.makeSlice 37 (.int .i64 0) (.int .i64 0)).run Tryz.prog W = .ok (.slice (some ⟨W.heap.size, 0, none⟩) 0 0) (W.alloc (.cells MK 55)) := hmk
    clear hmk hfl
    go_enter Tryz.func35, Tryz.ntmps35
    go_wp2_with fail
    go_ret
    exact ⟨⟨_, rfl, HM.out⟩, HB.out⟩
  · have HNEW := Lib.hid (row_news (by decide) H.out)
    go_enter Tryz.func35, Tryz.ntmps35
    go_wp2_with (at_builtin; refine wpList_append_own _ rfl _ _ 37 rfl w.heap.size 55 i0 (.agg #[.int .i64 0, .int .i64 0]) 2 16 Tryz.underlying37 hi hz0 hz1 hz2 rfl (by decide) _ 0 [] rfl HM.out ad n c rows.flatten rfl (by rw [HFL.out, HN.out]) HNEW.out HONE.out HL.out HY.out HZ.out ?_)
    intro v' w1 hown hgrow _
    have HB1 := Lib.hid (HB.out.grown hgrow (by rw [HSZ.out]; omega) (fun k hk => (HM.out.lt k hk).1))
    have HO := Lib.hid (show w1.ownsRow w.heap.size 55 2 v' n rows.flatten by simpa using hown)
    clear hown hgrow
    go_wp2_with fail
    go_ret
    exact ⟨⟨_, rfl, HO.out⟩, HB1.out⟩
theorem linfo_glob : (Tryz.prog.info? 35).map (fun i => (i.zero, i.size, i.bytes)) = some (some (.agg #[.int .i64 0, .bool false, .int .i64 0]), 3, 24) := by kernel_rfl
set_option maxRecDepth 100000 in
set_option maxHeartbeats 1000000 in
theorem list_glob (la : Option Addr) (c : Nat) (rows : List (List Value)) (w : World) (h : RowAt w 3 (.slice la rows.length c) rows) (hone : ∀ u ∈ rows.flatten, u.oneCell' = true) (hroom : rows.length * 24 ≤ 140737488355328) :
    Calls Tryz.prog 36 #[.slice la rows.length c] w fun e w' => (∃ v, e = .returned v ∧ w'.ownsRow w.heap.size 35 3 v rows.length rows.flatten) ∧ Below w.heap.size w w' := by
  obtain ⟨i0, hi, hz0, hz1, hz2⟩ := info_of linfo_glob
  have hlen : ∀ r ∈ rows, r.length = 3 := fun r hx => by
    obtain ⟨_, _, _, _, hr⟩ := h
    obtain ⟨i, hi⟩ := List.getElem?_of_mem hx
    exact (hr i r hi).1
  obtain ⟨n, hn⟩ : ∃ n, rows.length = n := ⟨_, rfl⟩
  have HFL := Lib.hid (flat_len rows hlen)
  have HN := Lib.hid hn
  obtain ⟨MK, hMK⟩ : ∃ MK, madeCells (.agg #[.int .i64 0, .bool false, .int .i64 0] : Value).cells (n * 3) = MK := ⟨_, rfl⟩
  have hms : MK.size = n * 3 := by rw [← hMK, size_madeCells]
  have hmk : ∀ W, (Instr.makeSlice 36 (.int .i64 0) (.int .i64 (n : Int))).run Tryz.prog W = .ok (.slice (some ⟨W.heap.size, 0, none⟩) 0 n) (W.alloc (.cells MK 35)) := fun W => by
    have := run_make (P := Tryz.prog) W 36 35 i0 (.agg #[.int .i64 0, .bool false, .int .i64 0]) Tryz.underlying36 hi hz0 .i64 .i64 0 (n : Int) (by omega) (by omega) (by rw [hz2]; omega) (by omega)
    rw [this, hz1, show ((n : Nat) : Int).toNat = n by omega, hMK]
    rfl
  have HM := Lib.hid (show (w.alloc (.cells MK 35)).ownsRow w.heap.size 35 3 (.slice (some ⟨w.heap.size, 0, none⟩) 0 n) 0 [] from World.ownsRow_made w MK n (Nat.le_refl _) (by unfold maxLen; omega) hms)
  have HB := Lib.hid ((Below.refl w.heap.size w).alloc (Nat.le_refl _) (.cells MK 35))
  have H := Lib.hid (h.later HB.out)
  have HONE := Lib.hid hone
  rw [hn] at h hroom ⊢
  have HSZ := Lib.hid (show (w.alloc (.cells MK 35)).heap.size = w.heap.size + 1 by simp)
  clear hMK hms hone hn hlen h
  have HL := Lib.hid (show 0 + n ≤ maxLen by unfold maxLen; omega)
  have HY := Lib.hid (show (0 + n) * 24 ≤ 140737488355328 by omega)
  have HZ := Lib.hid (show w.heap.size ≤ (w.alloc (.cells MK 35)).heap.size by rw [HSZ.out]; omega)
  rcases la with _ | ad
  · have hn0 : n = 0 := by
      rcases Nat.eq_zero_or_pos n with h0 | h0
      · exact h0
      · obtain ⟨la', c', hv, _, hr⟩ := H.out
        simp only [Value.slice.injEq] at hv
        obtain ⟨_, _, _, he, _⟩ := hr 0 _ (List.getElem?_eq_getElem (by rw [HN.out]; exact h0))
        rw [← hv.1] at he
        cases he
    subst hn0
    have hfl : rows.flatten = [] := List.eq_nil_of_length_eq_zero (by rw [HFL.out, HN.out, Nat.zero_mul])
    have hrn : (Builtin.append_ #[36, 36] 36 #[.slice (some ⟨w.heap.size, 0, none⟩) 0 0, .slice none 0 c]).run Tryz.prog (w.alloc (.cells MK 35)) = .ok (.slice (some ⟨w.heap.size, 0, none⟩) 0 0) (w.alloc (.cells MK 35)) := by
      simp [Builtin.append_, run_underlying Tryz.underlying36, sizeOf, typeInfo, hi, Builtin.lenOf, Builtin.firstCells, storeCells]
    rw [hfl]
    have hmk0 : ∀ W, (Instr.makeSlice 36 (.int .i64 0) (.int .i64 0)).run Tryz.prog W = .ok (.slice (some ⟨W.heap.size, 0, none⟩) 0 0) (W.alloc (.cells MK 35)) := hmk
    clear hmk hfl
    go_enter Tryz.func36, Tryz.ntmps36
    go_wp2_with fail
    go_ret
    exact ⟨⟨_, rfl, HM.out⟩, HB.out⟩
  · have HNEW := Lib.hid (row_news (by decide) H.out)
    go_enter Tryz.func36, Tryz.ntmps36
    go_wp2_with (at_builtin; refine wpList_append_own _ rfl _ _ 36 rfl w.heap.size 35 i0 (.agg #[.int .i64 0, .bool false, .int .i64 0]) 3 24 Tryz.underlying36 hi hz0 hz1 hz2 rfl (by decide) _ 0 [] rfl HM.out ad n c rows.flatten rfl (by rw [HFL.out, HN.out]) HNEW.out HONE.out HL.out HY.out HZ.out ?_)
    intro v' w1 hown hgrow _
    have HB1 := Lib.hid (HB.out.grown hgrow (by rw [HSZ.out]; omega) (fun k hk => (HM.out.lt k hk).1))
    have HO := Lib.hid (show w1.ownsRow w.heap.size 35 3 v' n rows.flatten by simpa using hown)
    clear hown hgrow
    go_wp2_with fail
    go_ret
    exact ⟨⟨_, rfl, HO.out⟩, HB1.out⟩
theorem linfo_exp : (Tryz.prog.info? 98).map (fun i => (i.zero, i.size, i.bytes)) = some (some (.agg #[.string ⟨#[]⟩, .int .i64 0, .int .i64 0]), 3, 32) := by kernel_rfl
set_option maxRecDepth 100000 in
set_option maxHeartbeats 1000000 in
theorem list_exp (la : Option Addr) (c : Nat) (rows : List (List Value)) (w : World) (h : RowAt w 3 (.slice la rows.length c) rows) (hone : ∀ u ∈ rows.flatten, u.oneCell' = true) (hroom : rows.length * 32 ≤ 140737488355328) :
    Calls Tryz.prog 37 #[.slice la rows.length c] w fun e w' => (∃ v, e = .returned v ∧ w'.ownsRow w.heap.size 98 3 v rows.length rows.flatten) ∧ Below w.heap.size w w' := by
  obtain ⟨i0, hi, hz0, hz1, hz2⟩ := info_of linfo_exp
  have hlen : ∀ r ∈ rows, r.length = 3 := fun r hx => by
    obtain ⟨_, _, _, _, hr⟩ := h
    obtain ⟨i, hi⟩ := List.getElem?_of_mem hx
    exact (hr i r hi).1
  obtain ⟨n, hn⟩ : ∃ n, rows.length = n := ⟨_, rfl⟩
  have HFL := Lib.hid (flat_len rows hlen)
  have HN := Lib.hid hn
  obtain ⟨MK, hMK⟩ : ∃ MK, madeCells (.agg #[.string ⟨#[]⟩, .int .i64 0, .int .i64 0] : Value).cells (n * 3) = MK := ⟨_, rfl⟩
  have hms : MK.size = n * 3 := by rw [← hMK, size_madeCells]
  have hmk : ∀ W, (Instr.makeSlice 38 (.int .i64 0) (.int .i64 (n : Int))).run Tryz.prog W = .ok (.slice (some ⟨W.heap.size, 0, none⟩) 0 n) (W.alloc (.cells MK 98)) := fun W => by
    have := run_make (P := Tryz.prog) W 38 98 i0 (.agg #[.string ⟨#[]⟩, .int .i64 0, .int .i64 0]) Tryz.underlying38 hi hz0 .i64 .i64 0 (n : Int) (by omega) (by omega) (by rw [hz2]; omega) (by omega)
    rw [this, hz1, show ((n : Nat) : Int).toNat = n by omega, hMK]
    rfl
  have HM := Lib.hid (show (w.alloc (.cells MK 98)).ownsRow w.heap.size 98 3 (.slice (some ⟨w.heap.size, 0, none⟩) 0 n) 0 [] from World.ownsRow_made w MK n (Nat.le_refl _) (by unfold maxLen; omega) hms)
  have HB := Lib.hid ((Below.refl w.heap.size w).alloc (Nat.le_refl _) (.cells MK 98))
  have H := Lib.hid (h.later HB.out)
  have HONE := Lib.hid hone
  rw [hn] at h hroom ⊢
  have HSZ := Lib.hid (show (w.alloc (.cells MK 98)).heap.size = w.heap.size + 1 by simp)
  clear hMK hms hone hn hlen h
  have HL := Lib.hid (show 0 + n ≤ maxLen by unfold maxLen; omega)
  have HY := Lib.hid (show (0 + n) * 32 ≤ 140737488355328 by omega)
  have HZ := Lib.hid (show w.heap.size ≤ (w.alloc (.cells MK 98)).heap.size by rw [HSZ.out]; omega)
  rcases la with _ | ad
  · have hn0 : n = 0 := by
      rcases Nat.eq_zero_or_pos n with h0 | h0
      · exact h0
      · obtain ⟨la', c', hv, _, hr⟩ := H.out
        simp only [Value.slice.injEq] at hv
        obtain ⟨_, _, _, he, _⟩ := hr 0 _ (List.getElem?_eq_getElem (by rw [HN.out]; exact h0))
        rw [← hv.1] at he
        cases he
    subst hn0
    have hfl : rows.flatten = [] := List.eq_nil_of_length_eq_zero (by rw [HFL.out, HN.out, Nat.zero_mul])
    have hrn : (Builtin.append_ #[38, 38] 38 #[.slice (some ⟨w.heap.size, 0, none⟩) 0 0, .slice none 0 c]).run Tryz.prog (w.alloc (.cells MK 98)) = .ok (.slice (some ⟨w.heap.size, 0, none⟩) 0 0) (w.alloc (.cells MK 98)) := by
      simp [Builtin.append_, run_underlying Tryz.underlying38, sizeOf, typeInfo, hi, Builtin.lenOf, Builtin.firstCells, storeCells]
    rw [hfl]
    have hmk0 : ∀ W, (Instr.makeSlice 38 (.int .i64 0) (.int .i64 0)).run Tryz.prog W = .ok (.slice (some ⟨W.heap.size, 0, none⟩) 0 0) (W.alloc (.cells MK 98)) := hmk
    clear hmk hfl
    go_enter Tryz.func37, Tryz.ntmps37
    go_wp2_with fail
    go_ret
    exact ⟨⟨_, rfl, HM.out⟩, HB.out⟩
  · have HNEW := Lib.hid (row_news (by decide) H.out)
    go_enter Tryz.func37, Tryz.ntmps37
    go_wp2_with (at_builtin; refine wpList_append_own _ rfl _ _ 38 rfl w.heap.size 98 i0 (.agg #[.string ⟨#[]⟩, .int .i64 0, .int .i64 0]) 3 32 Tryz.underlying38 hi hz0 hz1 hz2 rfl (by decide) _ 0 [] rfl HM.out ad n c rows.flatten rfl (by rw [HFL.out, HN.out]) HNEW.out HONE.out HL.out HY.out HZ.out ?_)
    intro v' w1 hown hgrow _
    have HB1 := Lib.hid (HB.out.grown hgrow (by rw [HSZ.out]; omega) (fun k hk => (HM.out.lt k hk).1))
    have HO := Lib.hid (show w1.ownsRow w.heap.size 98 3 v' n rows.flatten by simpa using hown)
    clear hown hgrow
    go_wp2_with fail
    go_ret
    exact ⟨⟨_, rfl, HO.out⟩, HB1.out⟩
theorem linfo_data : (Tryz.prog.info? 57).map (fun i => (i.zero, i.size, i.bytes)) = some (some (.agg #[.int .i64 0, .string ⟨#[]⟩]), 2, 24) := by kernel_rfl
set_option maxRecDepth 100000 in
set_option maxHeartbeats 1000000 in
theorem list_data (la : Option Addr) (c : Nat) (rows : List (List Value)) (w : World) (h : RowAt w 2 (.slice la rows.length c) rows) (hone : ∀ u ∈ rows.flatten, u.oneCell' = true) (hroom : rows.length * 24 ≤ 140737488355328) :
    Calls Tryz.prog 38 #[.slice la rows.length c] w fun e w' => (∃ v, e = .returned v ∧ w'.ownsRow w.heap.size 57 2 v rows.length rows.flatten) ∧ Below w.heap.size w w' := by
  obtain ⟨i0, hi, hz0, hz1, hz2⟩ := info_of linfo_data
  have hlen : ∀ r ∈ rows, r.length = 2 := fun r hx => by
    obtain ⟨_, _, _, _, hr⟩ := h
    obtain ⟨i, hi⟩ := List.getElem?_of_mem hx
    exact (hr i r hi).1
  obtain ⟨n, hn⟩ : ∃ n, rows.length = n := ⟨_, rfl⟩
  have HFL := Lib.hid (flat_len rows hlen)
  have HN := Lib.hid hn
  obtain ⟨MK, hMK⟩ : ∃ MK, madeCells (.agg #[.int .i64 0, .string ⟨#[]⟩] : Value).cells (n * 2) = MK := ⟨_, rfl⟩
  have hms : MK.size = n * 2 := by rw [← hMK, size_madeCells]
  have hmk : ∀ W, (Instr.makeSlice 39 (.int .i64 0) (.int .i64 (n : Int))).run Tryz.prog W = .ok (.slice (some ⟨W.heap.size, 0, none⟩) 0 n) (W.alloc (.cells MK 57)) := fun W => by
    have := run_make (P := Tryz.prog) W 39 57 i0 (.agg #[.int .i64 0, .string ⟨#[]⟩]) Tryz.underlying39 hi hz0 .i64 .i64 0 (n : Int) (by omega) (by omega) (by rw [hz2]; omega) (by omega)
    rw [this, hz1, show ((n : Nat) : Int).toNat = n by omega, hMK]
    rfl
  have HM := Lib.hid (show (w.alloc (.cells MK 57)).ownsRow w.heap.size 57 2 (.slice (some ⟨w.heap.size, 0, none⟩) 0 n) 0 [] from World.ownsRow_made w MK n (Nat.le_refl _) (by unfold maxLen; omega) hms)
  have HB := Lib.hid ((Below.refl w.heap.size w).alloc (Nat.le_refl _) (.cells MK 57))
  have H := Lib.hid (h.later HB.out)
  have HONE := Lib.hid hone
  rw [hn] at h hroom ⊢
  have HSZ := Lib.hid (show (w.alloc (.cells MK 57)).heap.size = w.heap.size + 1 by simp)
  clear hMK hms hone hn hlen h
  have HL := Lib.hid (show 0 + n ≤ maxLen by unfold maxLen; omega)
  have HY := Lib.hid (show (0 + n) * 24 ≤ 140737488355328 by omega)
  have HZ := Lib.hid (show w.heap.size ≤ (w.alloc (.cells MK 57)).heap.size by rw [HSZ.out]; omega)
  rcases la with _ | ad
  · have hn0 : n = 0 := by
      rcases Nat.eq_zero_or_pos n with h0 | h0
      · exact h0
      · obtain ⟨la', c', hv, _, hr⟩ := H.out
        simp only [Value.slice.injEq] at hv
        obtain ⟨_, _, _, he, _⟩ := hr 0 _ (List.getElem?_eq_getElem (by rw [HN.out]; exact h0))
        rw [← hv.1] at he
        cases he
    subst hn0
    have hfl : rows.flatten = [] := List.eq_nil_of_length_eq_zero (by rw [HFL.out, HN.out, Nat.zero_mul])
    have hrn : (Builtin.append_ #[39, 39] 39 #[.slice (some ⟨w.heap.size, 0, none⟩) 0 0, .slice none 0 c]).run Tryz.prog (w.alloc (.cells MK 57)) = .ok (.slice (some ⟨w.heap.size, 0, none⟩) 0 0) (w.alloc (.cells MK 57)) := by
      simp [Builtin.append_, run_underlying Tryz.underlying39, sizeOf, typeInfo, hi, Builtin.lenOf, Builtin.firstCells, storeCells]
    rw [hfl]
    have hmk0 : ∀ W, (Instr.makeSlice 39 (.int .i64 0) (.int .i64 0)).run Tryz.prog W = .ok (.slice (some ⟨W.heap.size, 0, none⟩) 0 0) (W.alloc (.cells MK 57)) := hmk
    clear hmk hfl
    go_enter Tryz.func38, Tryz.ntmps38
    go_wp2_with fail
    go_ret
    exact ⟨⟨_, rfl, HM.out⟩, HB.out⟩
  · have HNEW := Lib.hid (row_news (by decide) H.out)
    go_enter Tryz.func38, Tryz.ntmps38
    go_wp2_with (at_builtin; refine wpList_append_own _ rfl _ _ 39 rfl w.heap.size 57 i0 (.agg #[.int .i64 0, .string ⟨#[]⟩]) 2 24 Tryz.underlying39 hi hz0 hz1 hz2 rfl (by decide) _ 0 [] rfl HM.out ad n c rows.flatten rfl (by rw [HFL.out, HN.out]) HNEW.out HONE.out HL.out HY.out HZ.out ?_)
    intro v' w1 hown hgrow _
    have HB1 := Lib.hid (HB.out.grown hgrow (by rw [HSZ.out]; omega) (fun k hk => (HM.out.lt k hk).1))
    have HO := Lib.hid (show w1.ownsRow w.heap.size 57 2 v' n rows.flatten by simpa using hown)
    clear hown hgrow
    go_wp2_with fail
    go_ret
    exact ⟨⟨_, rfl, HO.out⟩, HB1.out⟩
set_option maxRecDepth 100000 in
set_option maxHeartbeats 1000000 in
theorem list_ins (la : Option Addr) (c : Nat) (rows : List (List Value)) (w : World) (h : RowAt w 4 (.slice la rows.length c) rows) (hone : ∀ u ∈ rows.flatten, u.oneCell' = true) (hroom : rows.length * 48 ≤ 140737488355328) :
    Calls Tryz.prog 39 #[.slice la rows.length c] w fun e w' => (∃ v, e = .returned v ∧ w'.ownsRow w.heap.size 29 4 v rows.length rows.flatten) ∧ Below w.heap.size w w' := by
  obtain ⟨i0, hi, hz0, hz1, hz2⟩ := info_of linfo_ins
  have hlen : ∀ r ∈ rows, r.length = 4 := fun r hx => by
    obtain ⟨_, _, _, _, hr⟩ := h
    obtain ⟨i, hi⟩ := List.getElem?_of_mem hx
    exact (hr i r hi).1
  obtain ⟨n, hn⟩ : ∃ n, rows.length = n := ⟨_, rfl⟩
  have HFL := Lib.hid (flat_len rows hlen)
  have HN := Lib.hid hn
  obtain ⟨MK, hMK⟩ : ∃ MK, madeCells (.agg #[.int .i64 0, .int .i64 0, .int .i64 0, .slice none 0 0] : Value).cells (n * 4) = MK := ⟨_, rfl⟩
  have hms : MK.size = n * 4 := by rw [← hMK, size_madeCells]
  have hmk : ∀ W, (Instr.makeSlice 30 (.int .i64 0) (.int .i64 (n : Int))).run Tryz.prog W = .ok (.slice (some ⟨W.heap.size, 0, none⟩) 0 n) (W.alloc (.cells MK 29)) := fun W => by
    have := run_make (P := Tryz.prog) W 30 29 i0 (.agg #[.int .i64 0, .int .i64 0, .int .i64 0, .slice none 0 0]) Tryz.underlying30 hi hz0 .i64 .i64 0 (n : Int) (by omega) (by omega) (by rw [hz2]; omega) (by omega)
    rw [this, hz1, show ((n : Nat) : Int).toNat = n by omega, hMK]
    rfl
  have HM := Lib.hid (show (w.alloc (.cells MK 29)).ownsRow w.heap.size 29 4 (.slice (some ⟨w.heap.size, 0, none⟩) 0 n) 0 [] from World.ownsRow_made w MK n (Nat.le_refl _) (by unfold maxLen; omega) hms)
  have HB := Lib.hid ((Below.refl w.heap.size w).alloc (Nat.le_refl _) (.cells MK 29))
  have H := Lib.hid (h.later HB.out)
  have HONE := Lib.hid hone
  rw [hn] at h hroom ⊢
  have HSZ := Lib.hid (show (w.alloc (.cells MK 29)).heap.size = w.heap.size + 1 by simp)
  clear hMK hms hone hn hlen h
  have HL := Lib.hid (show 0 + n ≤ maxLen by unfold maxLen; omega)
  have HY := Lib.hid (show (0 + n) * 48 ≤ 140737488355328 by omega)
  have HZ := Lib.hid (show w.heap.size ≤ (w.alloc (.cells MK 29)).heap.size by rw [HSZ.out]; omega)
  rcases la with _ | ad
  · have hn0 : n = 0 := by
      rcases Nat.eq_zero_or_pos n with h0 | h0
      · exact h0
      · obtain ⟨la', c', hv, _, hr⟩ := H.out
        simp only [Value.slice.injEq] at hv
        obtain ⟨_, _, _, he, _⟩ := hr 0 _ (List.getElem?_eq_getElem (by rw [HN.out]; exact h0))
        rw [← hv.1] at he
        cases he
    subst hn0
    have hfl : rows.flatten = [] := List.eq_nil_of_length_eq_zero (by rw [HFL.out, HN.out, Nat.zero_mul])
    have hrn : (Builtin.append_ #[30, 30] 30 #[.slice (some ⟨w.heap.size, 0, none⟩) 0 0, .slice none 0 c]).run Tryz.prog (w.alloc (.cells MK 29)) = .ok (.slice (some ⟨w.heap.size, 0, none⟩) 0 0) (w.alloc (.cells MK 29)) := by
      simp [Builtin.append_, run_underlying Tryz.underlying30, sizeOf, typeInfo, hi, Builtin.lenOf, Builtin.firstCells, storeCells]
    rw [hfl]
    have hmk0 : ∀ W, (Instr.makeSlice 30 (.int .i64 0) (.int .i64 0)).run Tryz.prog W = .ok (.slice (some ⟨W.heap.size, 0, none⟩) 0 0) (W.alloc (.cells MK 29)) := hmk
    clear hmk hfl
    go_enter Tryz.func39, Tryz.ntmps39
    go_wp2_with fail
    go_ret
    exact ⟨⟨_, rfl, HM.out⟩, HB.out⟩
  · have HNEW := Lib.hid (row_news (by decide) H.out)
    go_enter Tryz.func39, Tryz.ntmps39
    go_wp2_with (at_builtin; refine wpList_append_own _ rfl _ _ 30 rfl w.heap.size 29 i0 (.agg #[.int .i64 0, .int .i64 0, .int .i64 0, .slice none 0 0]) 4 48 Tryz.underlying30 hi hz0 hz1 hz2 rfl (by decide) _ 0 [] rfl HM.out ad n c rows.flatten rfl (by rw [HFL.out, HN.out]) HNEW.out HONE.out HL.out HY.out HZ.out ?_)
    intro v' w1 hown hgrow _
    have HB1 := Lib.hid (HB.out.grown hgrow (by rw [HSZ.out]; omega) (fun k hk => (HM.out.lt k hk).1))
    have HO := Lib.hid (show w1.ownsRow w.heap.size 29 4 v' n rows.flatten by simpa using hown)
    clear hown hgrow
    go_wp2_with fail
    go_ret
    exact ⟨⟨_, rfl, HO.out⟩, HB1.out⟩
set_option maxRecDepth 100000 in
set_option maxHeartbeats 1000000 in
theorem list_int (la : Option Addr) (c : Nat) (rows : List (List Value)) (w : World) (h : RowAt w 1 (.slice la rows.length c) rows) (hone : ∀ u ∈ rows.flatten, u.oneCell' = true) (hroom : rows.length * 8 ≤ 140737488355328) :
    Calls Tryz.prog 40 #[.slice la rows.length c] w fun e w' => (∃ v, e = .returned v ∧ w'.ownsRow w.heap.size 3 1 v rows.length rows.flatten) ∧ Below w.heap.size w w' := by
  obtain ⟨i0, hi, hz0, hz1, hz2⟩ := info_of linfo_int
  have hlen : ∀ r ∈ rows, r.length = 1 := fun r hx => by
    obtain ⟨_, _, _, _, hr⟩ := h
    obtain ⟨i, hi⟩ := List.getElem?_of_mem hx
    exact (hr i r hi).1
  obtain ⟨n, hn⟩ : ∃ n, rows.length = n := ⟨_, rfl⟩
  have HFL := Lib.hid (flat_len rows hlen)
  have HN := Lib.hid hn
  obtain ⟨MK, hMK⟩ : ∃ MK, madeCells (.int .i64 0 : Value).cells (n * 1) = MK := ⟨_, rfl⟩
  have hms : MK.size = n * 1 := by rw [← hMK, size_madeCells]
  have hmk : ∀ W, (Instr.makeSlice 27 (.int .i64 0) (.int .i64 (n : Int))).run Tryz.prog W = .ok (.slice (some ⟨W.heap.size, 0, none⟩) 0 n) (W.alloc (.cells MK 3)) := fun W => by
    have := run_make (P := Tryz.prog) W 27 3 i0 (.int .i64 0) Tryz.underlying27 hi hz0 .i64 .i64 0 (n : Int) (by omega) (by omega) (by rw [hz2]; omega) (by omega)
    rw [this, hz1, show ((n : Nat) : Int).toNat = n by omega, hMK]
    rfl
  have HM := Lib.hid (show (w.alloc (.cells MK 3)).ownsRow w.heap.size 3 1 (.slice (some ⟨w.heap.size, 0, none⟩) 0 n) 0 [] from World.ownsRow_made w MK n (Nat.le_refl _) (by unfold maxLen; omega) hms)
  have HB := Lib.hid ((Below.refl w.heap.size w).alloc (Nat.le_refl _) (.cells MK 3))
  have H := Lib.hid (h.later HB.out)
  have HONE := Lib.hid hone
  rw [hn] at h hroom ⊢
  have HSZ := Lib.hid (show (w.alloc (.cells MK 3)).heap.size = w.heap.size + 1 by simp)
  clear hMK hms hone hn hlen h
  have HL := Lib.hid (show 0 + n ≤ maxLen by unfold maxLen; omega)
  have HY := Lib.hid (show (0 + n) * 8 ≤ 140737488355328 by omega)
  have HZ := Lib.hid (show w.heap.size ≤ (w.alloc (.cells MK 3)).heap.size by rw [HSZ.out]; omega)
  rcases la with _ | ad
  · have hn0 : n = 0 := by
      rcases Nat.eq_zero_or_pos n with h0 | h0
      · exact h0
      · obtain ⟨la', c', hv, _, hr⟩ := H.out
        simp only [Value.slice.injEq] at hv
        obtain ⟨_, _, _, he, _⟩ := hr 0 _ (List.getElem?_eq_getElem (by rw [HN.out]; exact h0))
        rw [← hv.1] at he
        cases he
    subst hn0
    have hfl : rows.flatten = [] := List.eq_nil_of_length_eq_zero (by rw [HFL.out, HN.out, Nat.zero_mul])
    have hrn : (Builtin.append_ #[27, 27] 27 #[.slice (some ⟨w.heap.size, 0, none⟩) 0 0, .slice none 0 c]).run Tryz.prog (w.alloc (.cells MK 3)) = .ok (.slice (some ⟨w.heap.size, 0, none⟩) 0 0) (w.alloc (.cells MK 3)) := by
      simp [Builtin.append_, run_underlying Tryz.underlying27, sizeOf, typeInfo, hi, Builtin.lenOf, Builtin.firstCells, storeCells]
    rw [hfl]
    have hmk0 : ∀ W, (Instr.makeSlice 27 (.int .i64 0) (.int .i64 0)).run Tryz.prog W = .ok (.slice (some ⟨W.heap.size, 0, none⟩) 0 0) (W.alloc (.cells MK 3)) := hmk
    clear hmk hfl
    go_enter Tryz.func40, Tryz.ntmps40
    go_wp2_with fail
    go_ret
    exact ⟨⟨_, rfl, HM.out⟩, HB.out⟩
  · have HNEW := Lib.hid (row_news (by decide) H.out)
    go_enter Tryz.func40, Tryz.ntmps40
    go_wp2_with (at_builtin; refine wpList_append_own _ rfl _ _ 27 rfl w.heap.size 3 i0 (.int .i64 0) 1 8 Tryz.underlying27 hi hz0 hz1 hz2 rfl (by decide) _ 0 [] rfl HM.out ad n c rows.flatten rfl (by rw [HFL.out, HN.out]) HNEW.out HONE.out HL.out HY.out HZ.out ?_)
    intro v' w1 hown hgrow _
    have HB1 := Lib.hid (HB.out.grown hgrow (by rw [HSZ.out]; omega) (fun k hk => (HM.out.lt k hk).1))
    have HO := Lib.hid (show w1.ownsRow w.heap.size 3 1 v' n rows.flatten by simpa using hown)
    clear hown hgrow
    go_wp2_with fail
    go_ret
    exact ⟨⟨_, rfl, HO.out⟩, HB1.out⟩
end Go.Proofs.YtmbgemcddjailaaGreatDoor.Mod

/- ModCopyA: Rows of a copy's own; what package module's Copy does first: the lists, each anew. No condition beyond what each theorem names. -/
namespace Go.Proofs.YtmbgemcddjailaaGreatDoor.Mod
open Go.RowKit Go.Maps Go.Proofs.YtmbgemcddjailaaGreatDoor.Op
set_option linter.unusedVariables false
/-- what list leaves, of rows -/
def Listed (f : FuncId) (e : TypeId) (size : Nat) (B : Nat) (W0 : World) (v : Value) (rows : List (List Value)) : Prop :=
  ∀ W, Below W0.heap.size W0 W → B ≤ W.heap.size → Calls Tryz.prog f #[v] W fun en w' => (∃ a c, en = .returned (.slice a rows.length c) ∧ OwnAt w' W.heap.size e size (.slice a rows.length c) rows) ∧ Below W.heap.size W w'
theorem listed_ft {B : Nat} {w : World} {v : Value} {l : List FT} (h : TypesAt w v l) (hroom : l.length ≤ 1000000000) : Listed 33 25 2 B w v (l.map FT.cells) := by
  intro W hW hB
  obtain ⟨la, c, rows, rfl, hrow, hlen, hx, hsz⟩ := listOf (h.later lasts_ft hW)
  have e := cells_map FT.cells (fun r x hr => hr.1) hlen hx
  subst e
  refine (list_ft la c _ W hrow (fun u hu => ?_) (by rw [List.length_map]; omega)).mono ?_
  · obtain ⟨r, hr, hu⟩ := List.mem_flatten.1 hu
    obtain ⟨x, _, rfl⟩ := List.mem_map.1 hr
    simp [FT.cells] at hu
    rcases hu with rfl | rfl <;> rfl
  · rintro e w' ⟨⟨v', rfl, ho⟩, hb⟩
    obtain ⟨a', c', rfl⟩ := own_form ho
    exact ⟨⟨a', c', rfl, ho, hsz⟩, hb⟩
theorem listed_mem {B : Nat} {w : World} {v : Value} {l : List MemP} (h : MemsAt w v l) (hroom : l.length ≤ 1000000000) : Listed 35 55 2 B w v (l.map MemP.cells) := by
  intro W hW hB
  obtain ⟨la, c, rows, rfl, hrow, hlen, hx, hsz⟩ := listOf (h.later lasts_mem hW)
  have e := cells_map MemP.cells (fun r x hr => hr) hlen hx
  subst e
  refine (list_mem la c _ W hrow (fun u hu => ?_) (by rw [List.length_map]; omega)).mono ?_
  · obtain ⟨r, hr, hu⟩ := List.mem_flatten.1 hu
    obtain ⟨x, _, rfl⟩ := List.mem_map.1 hr
    simp [MemP.cells] at hu
    rcases hu with rfl | rfl <;> rfl
  · rintro e w' ⟨⟨v', rfl, ho⟩, hb⟩
    obtain ⟨a', c', rfl⟩ := own_form ho
    exact ⟨⟨a', c', rfl, ho, hsz⟩, hb⟩
theorem listed_glob {B : Nat} {w : World} {v : Value} {l : List GlobP} (h : GlobsAt w v l) (hroom : l.length ≤ 1000000000) : Listed 36 35 3 B w v (l.map GlobP.cells) := by
  intro W hW hB
  obtain ⟨la, c, rows, rfl, hrow, hlen, hx, hsz⟩ := listOf (h.later lasts_glob hW)
  have e := cells_map GlobP.cells (fun r x hr => hr) hlen hx
  subst e
  refine (list_glob la c _ W hrow (fun u hu => ?_) (by rw [List.length_map]; omega)).mono ?_
  · obtain ⟨r, hr, hu⟩ := List.mem_flatten.1 hu
    obtain ⟨x, _, rfl⟩ := List.mem_map.1 hr
    simp [GlobP.cells] at hu
    rcases hu with rfl | rfl | rfl <;> rfl
  · rintro e w' ⟨⟨v', rfl, ho⟩, hb⟩
    obtain ⟨a', c', rfl⟩ := own_form ho
    exact ⟨⟨a', c', rfl, ho, hsz⟩, hb⟩
theorem listed_exp {B : Nat} {w : World} {v : Value} {l : List ExpP} (h : ExpsAt w v l) (hroom : l.length ≤ 1000000000) : Listed 37 98 3 B w v (l.map ExpP.cells) := by
  intro W hW hB
  obtain ⟨la, c, rows, rfl, hrow, hlen, hx, hsz⟩ := listOf (h.later lasts_exp hW)
  have e := cells_map ExpP.cells (fun r x hr => hr.1) hlen hx
  subst e
  refine (list_exp la c _ W hrow (fun u hu => ?_) (by rw [List.length_map]; omega)).mono ?_
  · obtain ⟨r, hr, hu⟩ := List.mem_flatten.1 hu
    obtain ⟨x, _, rfl⟩ := List.mem_map.1 hr
    simp [ExpP.cells] at hu
    rcases hu with rfl | rfl | rfl <;> rfl
  · rintro e w' ⟨⟨v', rfl, ho⟩, hb⟩
    obtain ⟨a', c', rfl⟩ := own_form ho
    exact ⟨⟨a', c', rfl, ho, hsz⟩, hb⟩
theorem listed_data {B : Nat} {w : World} {v : Value} {l : List DataP} (h : DatasAt w v l) (hroom : l.length ≤ 1000000000) : Listed 38 57 2 B w v (l.map DataP.cells) := by
  intro W hW hB
  obtain ⟨la, c, rows, rfl, hrow, hlen, hx, hsz⟩ := listOf (h.later lasts_data hW)
  have e := cells_map DataP.cells (fun r x hr => hr.1) hlen hx
  subst e
  refine (list_data la c _ W hrow (fun u hu => ?_) (by rw [List.length_map]; omega)).mono ?_
  · obtain ⟨r, hr, hu⟩ := List.mem_flatten.1 hu
    obtain ⟨x, _, rfl⟩ := List.mem_map.1 hr
    simp [DataP.cells] at hu
    rcases hu with rfl | rfl <;> rfl
  · rintro e w' ⟨⟨v', rfl, ho⟩, hb⟩
    obtain ⟨a', c', rfl⟩ := own_form ho
    exact ⟨⟨a', c', rfl, ho, hsz⟩, hb⟩
end Go.Proofs.YtmbgemcddjailaaGreatDoor.Mod

/- ModSamePl: Modules that are the same: plain words (out of ModEq, ModSame). No condition but what each theorem names. -/
namespace Go.Proofs.YtmbgemcddjailaaGreatDoor.Mod
open Go.RowKit Go.Maps Go.Proofs.YtmbgemcddjailaaGreatDoor.Op
set_option linter.unusedVariables false
theorem below_drewN {B : Nat} {a w : World} (h : Below B a w) (n : Nat) : Below B a (w.drewN n) := ⟨h.os, h.tape, h.output, h.size, h.block⟩
def eqS (a b : ByteArray) : Bool := a.toList == b.toList
def eq_ft (x y : FT) : Bool := (eqS x.params y.params) && (eqS x.results y.results)
def eq_mem (x y : MemP) : Bool := (x.least == y.least) && (x.most == y.most)
def eq_glob (x y : GlobP) : Bool := (x.ty == y.ty) && (x.mut_ == y.mut_) && (x.init == y.init)
def eq_exp (x y : ExpP) : Bool := (eqS x.name y.name) && (x.kind == y.kind) && (x.index == y.index)
def eq_data (x y : DataP) : Bool := (x.offset == y.offset) && (eqS x.bytes y.bytes)
/-- two lists of as many, each the same -/
def sameL {α : Type} (eq : α → α → Bool) : List α → List α → Bool
  | [], [] => true
  | x :: xs, y :: ys => eq x y && sameL eq xs ys
  | _, _ => false
def sameIns (x y : InsL) : Bool := x.op == y.op && (x.a == y.a && (x.b == y.b && x.labels == y.labels))
def sameFn (x y : FuncP) : Bool := x.ty == y.ty && (eqS x.locals y.locals && sameL sameIns x.code y.code)
def sameM (a b : ModP) : Bool := a.start == b.start && (sameL eq_ft a.types b.types && (sameL sameFn a.funcs b.funcs && (sameL eq_mem a.memory b.memory && (sameL eq_glob a.globals b.globals && (sameL eq_exp a.exports b.exports && sameL eq_data a.data b.data)))))
def pairP {α : Type} (eq : α → α → Bool) (l m : List α) (j : Nat) : Bool := match l[j]?, m[j]? with
  | some x, some y => eq x y
  | _, _ => true
theorem pairP_some {α : Type} {eq : α → α → Bool} {l m : List α} {j : Nat} {x y : α} (h : l[j]? = some x) (h2 : m[j]? = some y) : pairP eq l m j = eq x y := by unfold pairP; rw [h, h2]
theorem anyN_succ (p : Nat → Bool) (n : Nat) : anyN p (n + 1) = (p 0 || anyN (fun j => p (j + 1)) n) := by
  unfold anyN
  rw [List.range_succ_eq_map]
  simp [List.any_map, Function.comp_def]
theorem sameL_eq {α : Type} (eq : α → α → Bool) : ∀ l m : List α, sameL eq l m = (decide (l.length = m.length) && !anyN (fun j => !pairP eq l m j) l.length)
  | [], [] => by simp [sameL, anyN]
  | [], y :: ys => by simp [sameL]
  | x :: xs, [] => by simp [sameL]
  | x :: xs, y :: ys => by
    show (eq x y && sameL eq xs ys) = _
    rw [sameL_eq eq xs ys, List.length_cons, anyN_succ]
    have h0 : pairP eq (x :: xs) (y :: ys) 0 = eq x y := pairP_some rfl rfl
    have h1 : ∀ j, pairP eq (x :: xs) (y :: ys) (j + 1) = pairP eq xs ys j := fun j => rfl
    rw [h0]
    simp only [h1, List.length_cons, Nat.add_right_cancel_iff]
    cases eq x y <;> cases decide (xs.length = ys.length) <;> simp
theorem code_forms {w : World} {v : Value} {l : List InsL} (h : CodeAt w v l) : ∃ a c, v = .slice a l.length c := by
  obtain ⟨la, c, hv, _⟩ := h.form
  exact ⟨la, c, hv⟩
def Labs (l : List InsL) : Prop := ∀ x ∈ l, x.labels.length ≤ 9223372036854775807
def isSl (v : Value) : Prop := ∃ a n c, v = .slice a n c
theorem ListAt.isSl {α : Type} {size : Nat} {R : World → List Value → α → Prop} {w : World} {v : Value} {l : List α} (h : ListAt size R w v l) : isSl v := by
  obtain ⟨la, c, hv, _⟩ := h.form
  exact ⟨la, _, c, hv⟩
end Go.Proofs.YtmbgemcddjailaaGreatDoor.Mod

/- ModCopyH: What package module's Copy answers, its first part: words for it. No condition but what each theorem names. -/
namespace Go.Proofs.YtmbgemcddjailaaGreatDoor.Mod
open Go.RowKit Go.Maps Go.Proofs.YtmbgemcddjailaaGreatDoor.Op
set_option linter.unusedVariables false
abbrev HeldC (b : Nat) (t f me g e : Value) (st : Int) (d : Value) (W0 W : World) : Prop := W.cell? ⟨b, 0, none⟩ = some t ∧ W.cell? ⟨b, 1, none⟩ = some f ∧ W.cell? ⟨b, 2, none⟩ = some me ∧ W.cell? ⟨b, 3, none⟩ = some g ∧ W.cell? ⟨b, 4, none⟩ = some e ∧ W.cell? ⟨b, 5, none⟩ = some (.int .i64 st) ∧ W.cell? ⟨b, 6, none⟩ = some d ∧ Below W0.heap.size W0 W
theorem heldC_later {b : Nat} {t f me g e : Value} {st : Int} {d : Value} {W0 W W' : World} (c : Below W.heap.size W W') (h : HeldC b t f me g e st d W0 W) : HeldC b t f me g e st d W0 W' :=
  ⟨cell_later c h.1, cell_later c h.2.1, cell_later c h.2.2.1, cell_later c h.2.2.2.1, cell_later c h.2.2.2.2.1, cell_later c h.2.2.2.2.2.1, cell_later c h.2.2.2.2.2.2.1, h.2.2.2.2.2.2.2.trans (c.mono h.2.2.2.2.2.2.2.size)⟩
theorem heldC_alloc {b : Nat} {t f me g e : Value} {st : Int} {d : Value} {W0 W : World} (o : Obj) (h : HeldC b t f me g e st d W0 W) : HeldC b t f me g e st d W0 (W.alloc o) := heldC_later ((Below.refl _ _).alloc (Nat.le_refl _) o) h
theorem heldC_drew {b : Nat} {t f me g e : Value} {st : Int} {d : Value} {W0 W : World} (h : HeldC b t f me g e st d W0 W) : HeldC b t f me g e st d W0 W.drew := heldC_later (Below.refl _ _).drew h
theorem heldC_set {b : Nat} {t f me g e : Value} {st : Int} {d : Value} {W0 W : World} (hb : b < W0.heap.size) {p : Nat} (hp : W0.heap.size ≤ p) (j : Nat) (u : Value) (h : HeldC b t f me g e st d W0 W) : HeldC b t f me g e st d W0 (W.setCell ⟨p, j, none⟩ u) := by
  have k : ∀ (i : Nat), (W.setCell ⟨p, j, none⟩ u).cell? ⟨b, i, none⟩ = W.cell? ⟨b, i, none⟩ := fun i => World.cell?_setCell_other W _ _ _ (fun e => by first | (simp at e; done) | (simp at e; omega))
  exact ⟨(k 0).trans h.1, (k 1).trans h.2.1, (k 2).trans h.2.2.1, (k 3).trans h.2.2.2.1, (k 4).trans h.2.2.2.2.1, (k 5).trans h.2.2.2.2.2.1, (k 6).trans h.2.2.2.2.2.2.1, h.2.2.2.2.2.2.2.setCell (p := ⟨p, j, none⟩) hp u⟩
theorem heldC_sets {b : Nat} {t f me g e : Value} {st : Int} {d : Value} {W0 W : World} (hb : b < W0.heap.size) {p : Nat} (hp : W0.heap.size ≤ p) (u0 u1 u2 u3 u4 u5 u6 : Value) (h : HeldC b t f me g e st d W0 W) : HeldC b t f me g e st d W0 (((((((W.setCell ⟨p, 0, none⟩ u0).setCell ⟨p, 1, none⟩ u1).setCell ⟨p, 2, none⟩ u2).setCell ⟨p, 3, none⟩ u3).setCell ⟨p, 4, none⟩ u4).setCell ⟨p, 5, none⟩ u5).setCell ⟨p, 6, none⟩ u6) :=
  heldC_set hb hp _ _ (heldC_set hb hp _ _ (heldC_set hb hp _ _ (heldC_set hb hp _ _ (heldC_set hb hp _ _ (heldC_set hb hp _ _ (heldC_set hb hp _ _ h))))))
abbrev zeroC : Array Value := #[.slice none 0 0, .slice none 0 0, .slice none 0 0, .slice none 0 0, .slice none 0 0, .int .i64 0, .slice none 0 0]
def ZeroAt (W : World) (b : Nat) : Prop := W.heap[b]? = some (.cells zeroC 41 (0, 0))
theorem zero_after {W W' : World} (c : Below (W.alloc (.cells zeroC 41)).heap.size (W.alloc (.cells zeroC 41)) W') : ZeroAt W' W.heap.size :=
  (c.block _ (by simp)).trans (heap_alloc_new _ _)
theorem zero_after_d1 {W W' : World} (c : Below (W.drew.alloc (.cells zeroC 41)).heap.size (W.drew.alloc (.cells zeroC 41)) W') : ZeroAt W' W.heap.size :=
  (c.block _ (by simp)).trans (heap_alloc_new W.drew _)
theorem zero_after_d2 {W W' : World} (c : Below ((W.alloc (.cells zeroC 41)).drew).heap.size (W.alloc (.cells zeroC 41)).drew W') : ZeroAt W' W.heap.size :=
  (c.block _ (by simp)).trans (heap_alloc_new W _)
theorem zero_later {W W' : World} {b : Nat} (z : ZeroAt W b) (c : Below W.heap.size W W') : ZeroAt W' b := (c.block _ (Array.getElem?_eq_some_iff.1 z).1).trans z
theorem zero_cells {W : World} {b : Nat} (z : ZeroAt W b) : (W.cell? ⟨b, 0, none⟩ = some (.slice none 0 0) ∧ W.cell? ⟨b, 1, none⟩ = some (.slice none 0 0) ∧ W.cell? ⟨b, 2, none⟩ = some (.slice none 0 0) ∧ W.cell? ⟨b, 3, none⟩ = some (.slice none 0 0) ∧ W.cell? ⟨b, 4, none⟩ = some (.slice none 0 0) ∧ W.cell? ⟨b, 5, none⟩ = some (.int .i64 0) ∧ W.cell? ⟨b, 6, none⟩ = some (.slice none 0 0)) ∧ (W.frozen? ⟨b, 0, none⟩ = false ∧ W.frozen? ⟨b, 1, none⟩ = false ∧ W.frozen? ⟨b, 2, none⟩ = false ∧ W.frozen? ⟨b, 3, none⟩ = false ∧ W.frozen? ⟨b, 4, none⟩ = false ∧ W.frozen? ⟨b, 5, none⟩ = false ∧ W.frozen? ⟨b, 6, none⟩ = false) :=
  ⟨⟨cell_of_row _ _ _ _ _ _ z, cell_of_row _ _ _ _ _ _ z, cell_of_row _ _ _ _ _ _ z, cell_of_row _ _ _ _ _ _ z, cell_of_row _ _ _ _ _ _ z, cell_of_row _ _ _ _ _ _ z, cell_of_row _ _ _ _ _ _ z⟩, frozen_of_row _ _ _ _ _ z, frozen_of_row _ _ _ _ _ z, frozen_of_row _ _ _ _ _ z, frozen_of_row _ _ _ _ _ z, frozen_of_row _ _ _ _ _ z, frozen_of_row _ _ _ _ _ z, frozen_of_row _ _ _ _ _ z⟩
theorem box_setC {w : World} {bb : Nat} {cs ds : Array Value} {t : TypeId} (h : w.heap[bb]? = some (.cells cs t (0, 0))) (j : Nat) (u : Value) (hd : cs.setIfInBounds j u = ds) : (w.setCell ⟨bb, j, none⟩ u).heap[bb]? = some (.cells ds t (0, 0)) := by
  rw [← hd]
  exact box_set h j u
theorem seven_setC {W : World} {b : Nat} {t : TypeId} {c0 c1 c2 c3 c4 c5 c6 : Value} (h : W.heap[b]? = some (.cells #[c0, c1, c2, c3, c4, c5, c6] t (0, 0))) (v0 v1 v2 v3 v4 v5 v6 : Value) : ∀ WF, (((((((W.setCell ⟨b, 0, none⟩ v0).setCell ⟨b, 1, none⟩ v1).setCell ⟨b, 2, none⟩ v2).setCell ⟨b, 3, none⟩ v3).setCell ⟨b, 4, none⟩ v4).setCell ⟨b, 5, none⟩ v5).setCell ⟨b, 6, none⟩ v6) = WF → WF.heap[b]? = some (.cells #[v0, v1, v2, v3, v4, v5, v6] t (0, 0)) ∧ WF.heap.size = W.heap.size ∧ Keeps (fun k => k = b) W WF := by
  intro WF hWF
  have one : ∀ (V : World) (cs ds : Array Value) (j : Nat) (u : Value), V.heap[b]? = some (.cells cs t (0, 0)) → cs.setIfInBounds j u = ds → V.heap.size = W.heap.size → Keeps (fun k => k = b) W V → (V.setCell ⟨b, j, none⟩ u).heap[b]? = some (.cells ds t (0, 0)) ∧ (V.setCell ⟨b, j, none⟩ u).heap.size = W.heap.size ∧ Keeps (fun k => k = b) W (V.setCell ⟨b, j, none⟩ u) := fun V cs ds j u h1 h2 h3 h4 =>
    ⟨box_setC h1 j u h2, by rw [← h3]; simp [World.setCell], h4.trans (Keeps.setCell (F := fun k => k = b) V _ _ rfl) (fun j hj => .inl hj)⟩
  obtain ⟨W1, hW1⟩ : ∃ W1, W.setCell ⟨b, 0, none⟩ v0 = W1 := ⟨_, rfl⟩
  have g1 := one W _ #[v0, c1, c2, c3, c4, c5, c6] 0 v0 h rfl rfl (.refl _ _)
  rw [hW1] at g1 hWF
  obtain ⟨W2, hW2⟩ : ∃ W2, W1.setCell ⟨b, 1, none⟩ v1 = W2 := ⟨_, rfl⟩
  have g2 := one W1 _ #[v0, v1, c2, c3, c4, c5, c6] 1 v1 g1.1 rfl g1.2.1 g1.2.2
  rw [hW2] at g2 hWF
  obtain ⟨W3, hW3⟩ : ∃ W3, W2.setCell ⟨b, 2, none⟩ v2 = W3 := ⟨_, rfl⟩
  have g3 := one W2 _ #[v0, v1, v2, c3, c4, c5, c6] 2 v2 g2.1 rfl g2.2.1 g2.2.2
  rw [hW3] at g3 hWF
  obtain ⟨W4, hW4⟩ : ∃ W4, W3.setCell ⟨b, 3, none⟩ v3 = W4 := ⟨_, rfl⟩
  have g4 := one W3 _ #[v0, v1, v2, v3, c4, c5, c6] 3 v3 g3.1 rfl g3.2.1 g3.2.2
  rw [hW4] at g4 hWF
  obtain ⟨W5, hW5⟩ : ∃ W5, W4.setCell ⟨b, 4, none⟩ v4 = W5 := ⟨_, rfl⟩
  have g5 := one W4 _ #[v0, v1, v2, v3, v4, c5, c6] 4 v4 g4.1 rfl g4.2.1 g4.2.2
  rw [hW5] at g5 hWF
  obtain ⟨W6, hW6⟩ : ∃ W6, W5.setCell ⟨b, 5, none⟩ v5 = W6 := ⟨_, rfl⟩
  have g6 := one W5 _ #[v0, v1, v2, v3, v4, v5, c6] 5 v5 g5.1 rfl g5.2.1 g5.2.2
  rw [hW6] at g6 hWF
  have g7 := one W6 _ #[v0, v1, v2, v3, v4, v5, v6] 6 v6 g6.1 rfl g6.2.1 g6.2.2
  rw [hWF] at g7
  exact g7

theorem link_alloc {W W' : World} {o : Obj} (c : Below (W.alloc o).heap.size (W.alloc o) W') : Below W.heap.size W W' := ((Below.refl _ _).alloc (Nat.le_refl _) o).trans (c.mono (by simp))
theorem link_drew {W W' : World} (c : Below W.drew.heap.size W.drew W') : Below W.heap.size W W' := ((Below.refl _ _).drew).trans c
theorem link_alloc_drew {W W' : World} {o : Obj} (c : Below (W.alloc o).drew.heap.size (W.alloc o).drew W') : Below W.heap.size W W' := link_alloc (link_drew c)
theorem link_drew_alloc {W W' : World} {o : Obj} (c : Below (W.drew.alloc o).heap.size (W.drew.alloc o) W') : Below W.heap.size W W' := link_drew (link_alloc c)
theorem OwnAt.lift {W W' : World} {B B' : Nat} {e : TypeId} {size : Nat} {v : Value} {rows : List (List Value)} (h : OwnAt W B e size v rows) (hB : B' ≤ B) (c : Below W.heap.size W W') : OwnAt W' B' e size v rows := ⟨ownsRow_base (h.later c).1 hB, h.2⟩
theorem OwnAt.set {W : World} {B : Nat} {e : TypeId} {size : Nat} {v : Value} {rows : List (List Value)} {W' : World} {b : Nat} {cs : Array Value} {t : TypeId} {f : Nat × Nat} (h : OwnAt W B e size v rows) (hk : W.heap[b]? = some (.cells cs t f)) (hne : e ≠ t) (k : Keeps (fun j => j = b) W W') : OwnAt W' B e size v rows :=
  ⟨ownsRow_of h.1 (fun j hj => k.block j (h.1.lt j hj).2 (fun e => kind_ne h.1 hk hne (e ▸ hj))), h.2⟩
/-- the copy's own block and its own lists -/
def HeadAt (b : Nat) (t f me g e : Value) (st : Int) (d : Value) (W0 : World) (ob : Nat) (vt vf vm vg ve vd : Value) (rt rf rm rg re rd : List (List Value)) (W : World) : Prop :=
  HeldC b t f me g e st d W0 W ∧ W0.heap.size ≤ ob ∧ W.heap[ob]? = some (.cells #[vt, vf, vm, vg, ve, .int .i64 st, vd] 41 (0, 0)) ∧ OwnAt W W0.heap.size 25 2 vt rt ∧ OwnAt W W0.heap.size 32 3 vf rf ∧ OwnAt W W0.heap.size 55 2 vm rm ∧ OwnAt W W0.heap.size 35 3 vg rg ∧ OwnAt W W0.heap.size 98 3 ve re ∧ OwnAt W W0.heap.size 57 2 vd rd
theorem head_alloc {b : Nat} {t f me g e : Value} {st : Int} {d : Value} {W0 : World} {vt vf vm vg ve vd : Value} {rt rf rm rg re rd : List (List Value)} {W : World} (h : HeldC b t f me g e st d W0 W) (oa : OwnAt W W0.heap.size 25 2 vt rt) (ob : OwnAt W W0.heap.size 32 3 vf rf) (oc : OwnAt W W0.heap.size 55 2 vm rm) (od : OwnAt W W0.heap.size 35 3 vg rg) (oe : OwnAt W W0.heap.size 98 3 ve re) (of : OwnAt W W0.heap.size 57 2 vd rd) :
    HeadAt b t f me g e st d W0 W.heap.size vt vf vm vg ve vd rt rf rm rg re rd (W.alloc (.cells #[vt, vf, vm, vg, ve, .int .i64 st, vd] 41)) := by
  have c : Below W.heap.size W (W.alloc (.cells #[vt, vf, vm, vg, ve, .int .i64 st, vd] 41)) := (Below.refl _ _).alloc (Nat.le_refl _) _
  exact ⟨heldC_later c h, h.2.2.2.2.2.2.2.size, heap_alloc_new _ _, oa.later c, ob.later c, oc.later c, od.later c, oe.later c, of.later c⟩
theorem head_sets {b : Nat} {t f me g e : Value} {st : Int} {d : Value} {W0 : World} {vt vf vm vg ve vd : Value} {rt rf rm rg re rd : List (List Value)} {W : World} {p : Nat} (hb : b < W0.heap.size) (hp : W0.heap.size ≤ p) (z : ZeroAt W p) (h : HeldC b t f me g e st d W0 W) (oa : OwnAt W W0.heap.size 25 2 vt rt) (ob : OwnAt W W0.heap.size 32 3 vf rf) (oc : OwnAt W W0.heap.size 55 2 vm rm) (od : OwnAt W W0.heap.size 35 3 vg rg) (oe : OwnAt W W0.heap.size 98 3 ve re) (of : OwnAt W W0.heap.size 57 2 vd rd) :
    HeadAt b t f me g e st d W0 p vt vf vm vg ve vd rt rf rm rg re rd (((((((W.setCell ⟨p, 0, none⟩ vt).setCell ⟨p, 1, none⟩ vf).setCell ⟨p, 2, none⟩ vm).setCell ⟨p, 3, none⟩ vg).setCell ⟨p, 4, none⟩ ve).setCell ⟨p, 5, none⟩ (.int .i64 st)).setCell ⟨p, 6, none⟩ vd) := by
  obtain ⟨hb7, hz7, hk7⟩ := seven_setC z vt vf vm vg ve (.int .i64 st) vd _ rfl
  exact ⟨heldC_sets hb hp _ _ _ _ _ _ _ h, hp, hb7, oa.set z (by decide) hk7, ob.set z (by decide) hk7, oc.set z (by decide) hk7, od.set z (by decide) hk7, oe.set z (by decide) hk7, of.set z (by decide) hk7⟩
end Go.Proofs.YtmbgemcddjailaaGreatDoor.Mod

/- ModCopyW: Rows of a copy's own, written in place; code and functions of its own. Plain but for the shape of memory. -/
namespace Go.Proofs.YtmbgemcddjailaaGreatDoor.Mod
open Go.RowKit Go.Maps Go.Proofs.YtmbgemcddjailaaGreatDoor.Op
set_option linter.unusedVariables false
theorem ownsRow_set {w : World} {B : Nat} {e : TypeId} {size : Nat} {n g cap : Nat} {xs : List Value} (h : w.ownsRow B e size (.slice (some ⟨g, 0, none⟩) n cap) n xs) (j : Nat) (u : Value) : (w.setCell ⟨g, j, none⟩ u).ownsRow B e size (.slice (some ⟨g, 0, none⟩) n cap) n (xs.set j u) := by
  refine ⟨by rw [List.length_set]; exact h.1, ?_⟩
  rcases h.2 with ⟨h1, _⟩ | ⟨g', cap', cur, h1, hb, hg, h2, h3, h4, h5⟩
  · simp at h1
  · simp only [Value.slice.injEq, Option.some.injEq, Addr.mk.injEq] at h1
    obtain ⟨⟨rfl, _⟩, _, rfl⟩ := h1
    refine .inr ⟨g, cap, cur.setIfInBounds j u, rfl, hb, box_set hg j u, h2, h3, by simp [h4], ?_⟩
    rw [Array.toList_setIfInBounds, List.take_set, h5]
theorem flatten_set {size : Nat} (p : Nat) (hp : p < size) (u : Value) : ∀ (rows : List (List Value)) (i : Nat) (r : List Value), (∀ r ∈ rows, r.length = size) → rows[i]? = some r → (rows.set i (r.set p u)).flatten = rows.flatten.set (i * size + p) u := by
  intro rows
  induction rows with
  | nil => intro i r _ h; simp at h
  | cons r0 rs ih =>
    intro i r hsz h
    have h0 : r0.length = size := hsz r0 (by simp)
    cases i with
    | zero =>
      simp at h
      subst h
      simp only [List.set_cons_zero, List.flatten_cons, Nat.zero_mul, Nat.zero_add]
      rw [List.set_append_left _ _ (by omega)]
    | succ i =>
      simp only [List.getElem?_cons_succ] at h
      simp only [List.set_cons_succ, List.flatten_cons]
      rw [ih i r (fun r hr => hsz r (by simp [hr])) h, List.set_append_right _ _ (by rw [Nat.add_mul]; omega), h0]
      congr 2
      rw [Nat.add_mul]
      omega
theorem OwnAt.block {w : World} {B : Nat} {e : TypeId} {size : Nat} {v : Value} {rows : List (List Value)} (h : OwnAt w B e size v rows) {i : Nat} {r : List Value} (hr : rows[i]? = some r) : ∃ g cap, v = .slice (some ⟨g, 0, none⟩) rows.length cap ∧ B ≤ g ∧ g < w.heap.size := by
  have hi := (List.getElem?_eq_some_iff.1 hr).1
  have h0 := h.1
  rcases h.1.2 with ⟨_, h2⟩ | ⟨g, cap, cur, h1, hb, _⟩
  · omega
  · rw [h1] at h0
    exact ⟨g, cap, h1, hb, (h0.lt g rfl).2⟩
theorem OwnAt.put {w : World} {B : Nat} {e : TypeId} {size : Nat} {g n cap : Nat} {rows : List (List Value)} (h : OwnAt w B e size (.slice (some ⟨g, 0, none⟩) n cap) rows) (hn : n = rows.length) {i : Nat} {r : List Value} (hr : rows[i]? = some r) {p : Nat} (hp : p < size) (u : Value) : OwnAt (w.setCell ⟨g, i * size + p, none⟩ u) B e size (.slice (some ⟨g, 0, none⟩) n cap) (rows.set i (r.set p u)) := by
  subst hn
  refine ⟨?_, fun q hq => ?_⟩
  · rw [List.length_set, flatten_set p hp u rows i r h.2 hr]
    exact ownsRow_set h.1 _ _
  · rcases List.mem_or_eq_of_mem_set hq with h1 | h1
    · exact h.2 _ h1
    · rw [h1, List.length_set]
      exact h.2 _ (List.mem_of_getElem? hr)
/-- labels of its own -/
def LabOwn (w : World) (B : Nat) (v : Value) (zs : List Int) : Prop := OwnAt w B 3 1 v (zs.map fun z => [.int .i64 z])
def InsOwn (w : World) (B : Nat) (r : List Value) (x : InsL) : Prop := ∃ lv, r = [.int .i64 x.op, .int .i64 x.a, .int .i64 x.b, lv] ∧ LabOwn w B lv x.labels ∧ (Lit.int .i64 x.op).wf = true
/-- code of its own -/
def CodeOwn (w : World) (B : Nat) (v : Value) (code : List InsL) : Prop := ∃ rows, OwnAt w B 29 4 v rows ∧ rows.length = code.length ∧ ∀ (i : Nat) r x, rows[i]? = some r → code[i]? = some x → InsOwn w B r x
def FuncOwn (w : World) (B : Nat) (r : List Value) (x : FuncP) : Prop := ∃ cv, r = [.int .i64 x.ty, .string x.locals, cv] ∧ CodeOwn w B cv x.code
theorem OwnAt.keeps {w w' : World} {B : Nat} {e : TypeId} {size : Nat} {v : Value} {rows : List (List Value)} (h : OwnAt w B e size v rows) {F : Nat → Prop} (k : Keeps F w w') (hF : ∀ j, F j → w.heap.size ≤ j ∨ ∃ cs t f, w.heap[j]? = some (.cells cs t f) ∧ e ≠ t) : OwnAt w' B e size v rows :=
  ⟨ownsRow_of h.1 (fun j hj => k.block j (h.1.lt j hj).2 (fun hf => by
    rcases hF j hf with h1 | ⟨cs, t, f, h1, h2⟩
    · have := (h.1.lt j hj).2; omega
    · exact kind_ne h.1 h1 h2 hj)), h.2⟩
theorem InsOwn.keeps {w w' : World} {B : Nat} {r : List Value} {x : InsL} (h : InsOwn w B r x) {F : Nat → Prop} (k : Keeps F w w') (hF : ∀ j, F j → w.heap.size ≤ j ∨ ∃ cs t f, w.heap[j]? = some (.cells cs t f) ∧ 3 ≠ t) : InsOwn w' B r x := by
  obtain ⟨lv, h1, h2, h3⟩ := h
  exact ⟨lv, h1, OwnAt.keeps h2 k hF, h3⟩
theorem CodeOwn.keeps {w w' : World} {B : Nat} {v : Value} {code : List InsL} (h : CodeOwn w B v code) {F : Nat → Prop} (k : Keeps F w w') (hF : ∀ j, F j → w.heap.size ≤ j ∨ ∃ cs t f, w.heap[j]? = some (.cells cs t f) ∧ 3 ≠ t ∧ 29 ≠ t) : CodeOwn w' B v code := by
  obtain ⟨rows, h1, h2, h3⟩ := h
  have hI : ∀ j, F j → w.heap.size ≤ j ∨ ∃ cs t f, w.heap[j]? = some (.cells cs t f) ∧ 29 ≠ t := fun j hj => (hF j hj).imp id (fun ⟨cs, t, f, a, _, c⟩ => ⟨cs, t, f, a, c⟩)
  have hJ : ∀ j, F j → w.heap.size ≤ j ∨ ∃ cs t f, w.heap[j]? = some (.cells cs t f) ∧ 3 ≠ t := fun j hj => (hF j hj).imp id (fun ⟨cs, t, f, a, b, _⟩ => ⟨cs, t, f, a, b⟩)
  exact ⟨rows, h1.keeps k hI, h2, fun i r x hr hx => (h3 i r x hr hx).keeps k hJ⟩
theorem FuncOwn.keeps {w w' : World} {B : Nat} {r : List Value} {x : FuncP} (h : FuncOwn w B r x) {F : Nat → Prop} (k : Keeps F w w') (hF : ∀ j, F j → w.heap.size ≤ j ∨ ∃ cs t f, w.heap[j]? = some (.cells cs t f) ∧ 3 ≠ t ∧ 29 ≠ t) : FuncOwn w' B r x := by
  obtain ⟨cv, h1, h2⟩ := h
  exact ⟨cv, h1, h2.keeps k hF⟩
theorem LabOwn.ints {w : World} {B : Nat} {v : Value} {zs : List Int} (h : LabOwn w B v zs) : IntsAt w v zs := by
  rcases h.1.2 with ⟨h1, h2⟩ | ⟨g, cap, cur, h1, _⟩
  · rw [List.length_map] at h2
    exact .inl ⟨h1, List.eq_nil_of_length_eq_zero h2⟩
  · have ho := h.1
    rw [h1] at ho
    rw [List.length_map] at h1
    refine .inr (.inl ⟨g, 0, cap, h1, (ho.lt g rfl).2, fun j z hz => ?_⟩)
    have hj := (List.getElem?_eq_some_iff.1 hz).1
    rw [Nat.zero_add, ho.cellAt _ (by rw [List.length_map]; omega), flat_at (by omega) _ _ h.2]
    simp [List.getElem?_map, Nat.mod_one, hz]
theorem CodeOwn.at {w : World} {B : Nat} {v : Value} {code : List InsL} (h : CodeOwn w B v code) (hl : code.length ≤ 9223372036854775807) : CodeAt w v code := by
  obtain ⟨rows, h1, h2, h3⟩ := h
  refine ⟨rows, h1.row (by omega) (by omega), h2, fun i r x hr hx => ?_⟩
  obtain ⟨lv, e, ho, hw⟩ := h3 i r x hr hx
  exact ⟨lv, e, ho.ints, hw⟩
end Go.Proofs.YtmbgemcddjailaaGreatDoor.Mod

/- ModCopyX: The rounds of Copy's two loops, on memory alone. -/
namespace Go.Proofs.YtmbgemcddjailaaGreatDoor.Mod
open Go.RowKit Go.Maps Go.Proofs.YtmbgemcddjailaaGreatDoor.Op
set_option linter.unusedVariables false
theorem rowAt_ints {w : World} {v : Value} {zs : List Int} (h : IntsAt w v zs) (hl : zs.length ≤ 9223372036854775807) : RowAt w 1 v (zs.map fun z => [.int .i64 z]) := by
  rcases h with ⟨rfl, rfl⟩ | ⟨b, off, c, rfl, hb, hc⟩ | ⟨a, c, rfl, rfl⟩
  · exact ⟨none, 0, rfl, by simp, fun i r hr => by simp at hr⟩
  rotate_left
  · exact ⟨a, c, rfl, by simp, fun i r hr => by simp at hr⟩
  · refine ⟨some ⟨b, off, none⟩, c, by rw [List.length_map], by rw [List.length_map]; exact hl, fun i r hr => ?_⟩
    rw [List.getElem?_map] at hr
    cases hz : zs[i]? with
    | none => rw [hz] at hr; cases hr
    | some z =>
      rw [hz] at hr
      simp only [Option.map_some, Option.some.injEq] at hr
      subst hr
      refine ⟨rfl, b, off, rfl, hb, fun j u hu => ?_⟩
      cases j with
      | zero =>
        simp at hu
        subst hu
        rw [Nat.mul_one, Nat.add_zero]
        exact hc i z hz
      | succ j => simp at hu
/-- the inner loop: code's labels, c of them anew -/
def InAt (w1 : World) (B : Nat) (cv : Value) (irows : List (List Value)) (code : List InsL) (c : Nat) (wi : World) : Prop :=
  ∃ rows, rows.length = irows.length ∧ OwnAt wi B 29 4 cv rows ∧ (∀ i, c ≤ i → rows[i]? = irows[i]?) ∧ (∀ i r x, i < c → rows[i]? = some r → code[i]? = some x → InsOwn wi B r x) ∧ Keeps (fun j => cv.ownBlock = some j) w1 wi
theorem in_start {w1 : World} {B : Nat} {cv : Value} {irows : List (List Value)} (code : List InsL) (h : OwnAt w1 B 29 4 cv irows) : InAt w1 B cv irows code 0 w1 :=
  ⟨irows, rfl, h, fun _ _ => rfl, fun i r x hi => absurd hi (by omega), .refl _ _⟩
theorem in_end {w1 wi : World} {B : Nat} {cv : Value} {irows : List (List Value)} {code : List InsL} (h : InAt w1 B cv irows code code.length wi) (hl : irows.length = code.length) : CodeOwn wi B cv code := by
  obtain ⟨rows, h1, h2, _, h4, _⟩ := h
  exact ⟨rows, h2, by omega, fun i r x hr hx => h4 i r x (List.getElem?_eq_some_iff.1 hx).1 hr hx⟩
theorem in_step {w1 wi w2 : World} {B : Nat} {g n cap : Nat} {irows : List (List Value)} {code : List InsL} {c : Nat} {x : InsL} {lv lv' : Value}
    (h : InAt w1 B (.slice (some ⟨g, 0, none⟩) n cap) irows code c wi) (hn : n = irows.length) (hr : irows[c]? = some [.int .i64 x.op, .int .i64 x.a, .int .i64 x.b, lv]) (hx : code[c]? = some x) (hw : (Lit.int .i64 x.op).wf = true)
    (hB : B ≤ wi.heap.size) (hb : Below wi.heap.size wi w2) (ho : LabOwn w2 wi.heap.size lv' x.labels) : InAt w1 B (.slice (some ⟨g, 0, none⟩) n cap) irows code (c + 1) (w2.setCell ⟨g, c * 4 + 3, none⟩ lv') := by
  obtain ⟨rows, h1, h2, h3, h4, h5⟩ := h
  have hrc : rows[c]? = some [.int .i64 x.op, .int .i64 x.a, .int .i64 x.b, lv] := (h3 c (Nat.le_refl _)).trans hr
  have hc := (List.getElem?_eq_some_iff.1 hrc).1
  have h2' : OwnAt w2 B 29 4 (.slice (some ⟨g, 0, none⟩) n cap) rows := h2.later hb
  obtain ⟨cs, fz, hk⟩ := Lib.ownsRow_kind h2'.1 g rfl
  have k2 : Keeps (fun j => j = g) w2 (w2.setCell ⟨g, c * 4 + 3, none⟩ lv') := Keeps.setCell (F := fun j => j = g) w2 _ _ rfl
  have hlab : LabOwn w2 B lv' x.labels := ⟨ownsRow_base ho.1 hB, ho.2⟩
  have hK : ∀ j, (fun j => j = g) j → w2.heap.size ≤ j ∨ ∃ cs t f, w2.heap[j]? = some (.cells cs t f) ∧ 3 ≠ t := fun j hj => .inr ⟨cs, 29, fz, by obtain rfl : j = g := hj; exact hk, by decide⟩
  have hput := h2'.put (by omega) hrc (p := 3) (by omega) lv'
  refine ⟨rows.set c _, by rw [List.length_set]; exact h1, hput, fun i hi => ?_, fun i r y hi hri hy => ?_, ?_⟩
  · rw [List.getElem?_set_ne (by omega)]
    exact h3 i (by omega)
  · by_cases hic : i = c
    · subst hic
      rw [hx] at hy
      obtain rfl := Option.some.inj hy
      rw [List.getElem?_set_self hc] at hri
      obtain rfl := Option.some.inj hri
      exact ⟨lv', rfl, OwnAt.keeps hlab k2 hK, hw⟩
    · rw [List.getElem?_set_ne (by omega)] at hri
      refine InsOwn.keeps ?_ k2 hK
      exact (h4 i r y (by omega) hri hy).keeps (Keeps.of_below (F := fun _ => False) hb) (fun j hj => hj.elim)
  · refine Keeps.trans (Keeps.trans h5 (Keeps.of_below (F := fun _ => False) hb) (fun j hj => hj.elim)) k2 (fun j hj => .inl ?_)
    rw [show j = g from hj]
    rfl
/-- the outer loop: functions' code, k of them anew -/
def OutAt (wc : World) (B : Nat) (vf : Value) (rf : List (List Value)) (fs : List FuncP) (k : Nat) (wr : World) : Prop :=
  ∃ rows, rows.length = rf.length ∧ OwnAt wr B 32 3 vf rows ∧ (∀ i, k ≤ i → rows[i]? = rf[i]?) ∧ (∀ i r x, i < k → rows[i]? = some r → fs[i]? = some x → FuncOwn wr B r x) ∧ Keeps (fun j => vf.ownBlock = some j) wc wr
theorem out_start {wc : World} {B : Nat} {vf : Value} {rf : List (List Value)} (fs : List FuncP) (h : OwnAt wc B 32 3 vf rf) : OutAt wc B vf rf fs 0 wc :=
  ⟨rf, rfl, h, fun _ _ => rfl, fun i r x hi => absurd hi (by omega), .refl _ _⟩
theorem out_step {wc wr w1 wi : World} {B : Nat} {g n cap : Nat} {rf : List (List Value)} {fs : List FuncP} {k : Nat} {x : FuncP} {cv cv' : Value} {irows : List (List Value)}
    (h : OutAt wc B (.slice (some ⟨g, 0, none⟩) n cap) rf fs k wr) (hn : n = rf.length) (hr : rf[k]? = some [.int .i64 x.ty, .string x.locals, cv]) (hx : fs[k]? = some x)
    (hB : B ≤ wr.heap.size) (hb : Below wr.heap.size wr w1) (ho : OwnAt w1 wr.heap.size 29 4 cv' irows) (hl : irows.length = x.code.length)
    (hi : InAt (w1.setCell ⟨g, k * 3 + 2, none⟩ cv') B cv' irows x.code x.code.length wi) : OutAt wc B (.slice (some ⟨g, 0, none⟩) n cap) rf fs (k + 1) wi := by
  obtain ⟨rows, h1, h2, h3, h4, h5⟩ := h
  have hrk : rows[k]? = some [.int .i64 x.ty, .string x.locals, cv] := (h3 k (Nat.le_refl _)).trans hr
  have hk := (List.getElem?_eq_some_iff.1 hrk).1
  have h2' : OwnAt w1 B 32 3 (.slice (some ⟨g, 0, none⟩) n cap) rows := h2.later hb
  obtain ⟨cs, fz, hkd⟩ := Lib.ownsRow_kind h2'.1 g rfl
  have k2 : Keeps (fun j => j = g) w1 (w1.setCell ⟨g, k * 3 + 2, none⟩ cv') := Keeps.setCell (F := fun j => j = g) w1 _ _ rfl
  have hK : ∀ j, (fun j => j = g) j → w1.heap.size ≤ j ∨ ∃ cs t f, w1.heap[j]? = some (.cells cs t f) ∧ 3 ≠ t ∧ 29 ≠ t := fun j hj => .inr ⟨cs, 32, fz, by obtain rfl : j = g := hj; exact hkd, by decide, by decide⟩
  have hput := h2'.put (by omega) hrk (p := 2) (by omega) cv'
  have hcode := in_end hi hl
  obtain ⟨_, _, _, _, _, k3⟩ := hi
  have hz : (w1.setCell ⟨g, k * 3 + 2, none⟩ cv').heap.size = w1.heap.size := by simp [World.setCell]
  -- the code's block is new: below it nothing turns
  have hnew : ∀ j, cv'.ownBlock = some j → wr.heap.size ≤ j := fun j hj => (ho.1.lt j hj).1
  have kall : Keeps (fun j => j = g ∨ wr.heap.size ≤ j) wr wi :=
    Keeps.trans (Keeps.trans (Keeps.of_below (F := fun j => j = g ∨ wr.heap.size ≤ j) hb) k2 (fun j hj => .inl (.inl hj))) k3 (fun j hj => .inl (.inr (hnew j hj)))
  obtain ⟨cs0, fz0, hkd0⟩ := Lib.ownsRow_kind h2.1 g rfl
  have hK0 : ∀ j, (fun j => j = g ∨ wr.heap.size ≤ j) j → wr.heap.size ≤ j ∨ ∃ cs t f, wr.heap[j]? = some (.cells cs t f) ∧ 3 ≠ t ∧ 29 ≠ t := fun j hj => by
    rcases hj with hj | hj
    · exact .inr ⟨cs0, 32, fz0, by obtain rfl : j = g := hj; exact hkd0, by decide, by decide⟩
    · exact .inl hj
  refine ⟨rows.set k _, by rw [List.length_set]; exact h1, OwnAt.keeps hput k3 (fun j hj => ?_), fun i hi => ?_, fun i r y hi hri hy => ?_, ?_⟩
  · obtain ⟨cs1, fz1, hk1⟩ := Lib.ownsRow_kind ho.1 j hj
    refine .inr ⟨cs1, 29, fz1, ?_, by decide⟩
    rw [k2.block j (ho.1.lt j hj).2 (fun e => ?_)]
    · exact hk1
    · have e' : j = g := e
      rw [e', hkd] at hk1
      simp at hk1
  · rw [List.getElem?_set_ne (by omega)]
    exact h3 i (by omega)
  · by_cases hik : i = k
    · subst hik
      rw [hx] at hy
      obtain rfl := Option.some.inj hy
      rw [List.getElem?_set_self hk] at hri
      obtain rfl := Option.some.inj hri
      exact ⟨cv', rfl, hcode⟩
    · rw [List.getElem?_set_ne (by omega)] at hri
      exact (h4 i r y (by omega) hri hy).keeps kall hK0
  · refine Keeps.trans h5 kall (fun j hj => ?_)
    rcases hj with hj | hj
    · refine .inl ?_
      rw [show j = g from hj]
      rfl
    · exact .inr (Nat.le_trans h5.size hj)
end Go.Proofs.YtmbgemcddjailaaGreatDoor.Mod

/- ModCopyY: Cells of rows of one's own; list of code, list of labels, as contracts. -/
namespace Go.Proofs.YtmbgemcddjailaaGreatDoor.Mod
open Go.RowKit Go.Maps Go.Proofs.YtmbgemcddjailaaGreatDoor.Op
set_option linter.unusedVariables false
theorem OwnAt.cell {w : World} {B : Nat} {e : TypeId} {size : Nat} {g n cap : Nat} {rows : List (List Value)} (h : OwnAt w B e size (.slice (some ⟨g, 0, none⟩) n cap) rows) (hs : 0 < size) {i j : Nat} {r : List Value} {u : Value} (hr : rows[i]? = some r) (hu : r[j]? = some u) : w.cell? ⟨g, i * size + j, none⟩ = some u := by
  have hi := (List.getElem?_eq_some_iff.1 hr).1
  have hj : j < size := by have := (List.getElem?_eq_some_iff.1 hu).1; rw [h.2 r (List.mem_of_getElem? hr)] at this; exact this
  have hij : i * size + j < rows.length * size := by
    have : (i + 1) * size ≤ rows.length * size := Nat.mul_le_mul_right _ hi
    rw [Nat.add_mul] at this
    omega
  rcases h.1.2 with ⟨h1, _⟩ | ⟨g', cap', cur, h1, _⟩
  · simp at h1
  · have ho := h.1
    obtain rfl : n = rows.length := by simp only [Value.slice.injEq] at h1; omega
    rw [ho.cellAt _ hij, flat_at hs rows _ h.2]
    rw [show (i * size + j) / size = i by rw [Nat.mul_comm, Nat.mul_add_div hs, Nat.div_eq_of_lt hj]; omega, show (i * size + j) % size = j by rw [Nat.mul_comm, Nat.mul_add_mod, Nat.mod_eq_of_lt hj]]
    rw [hr]
    exact hu
theorem OwnAt.soft {w : World} {B : Nat} {e : TypeId} {size : Nat} {g n cap : Nat} {rows : List (List Value)} (h : OwnAt w B e size (.slice (some ⟨g, 0, none⟩) n cap) rows) (j : Nat) : w.frozen? ⟨g, j, none⟩ = false := by
  rcases h.1.2 with ⟨h1, _⟩ | ⟨g', cap', cur, h1, _, hg, _⟩
  · simp at h1
  · simp only [Value.slice.injEq, Option.some.injEq, Addr.mk.injEq] at h1
    obtain ⟨⟨rfl, _⟩, _⟩ := h1
    exact frozen_of_row _ _ _ _ _ hg
theorem ins_calls {w : World} {cv : Value} {code : List InsL} (h : CodeAt w cv code) (hl : code.length * 48 ≤ 140737488355328) : ∃ la c irows, cv = .slice la irows.length c ∧ irows.length = code.length ∧ (∀ (i : Nat) r x, irows[i]? = some r → code[i]? = some x → isIns w r x) ∧
    Calls Tryz.prog 39 #[cv] w fun en w' => (∃ a c', en = .returned (.slice a irows.length c') ∧ OwnAt w' w.heap.size 29 4 (.slice a irows.length c') irows) ∧ Below w.heap.size w w' := by
  obtain ⟨la, c, irows, rfl, hrow, hlen, hx, hsz⟩ := listOf h
  refine ⟨la, c, irows, rfl, hlen, hx, ?_⟩
  refine (list_ins la c irows w hrow (fun u hu => ?_) (by omega)).mono ?_
  · obtain ⟨r, hr, hu⟩ := List.mem_flatten.1 hu
    obtain ⟨i, hi⟩ := List.getElem?_of_mem hr
    have hlt := (List.getElem?_eq_some_iff.1 hi).1
    obtain ⟨lv, rfl, hl, _⟩ := hx i r _ hi (List.getElem?_eq_getElem (by omega))
    obtain ⟨a, c', rfl⟩ := intsAt_form hl
    simp at hu
    rcases hu with rfl | rfl | rfl | rfl <;> rfl
  · rintro e w' ⟨⟨v', rfl, ho⟩, hb⟩
    obtain ⟨a', c', rfl⟩ := own_form ho
    exact ⟨⟨a', c', rfl, ho, hsz⟩, hb⟩
theorem int_calls {w : World} {lv : Value} {zs : List Int} (h : IntsAt w lv zs) (hl : zs.length ≤ 1000000000) :
    Calls Tryz.prog 40 #[lv] w fun en w' => (∃ a c', en = .returned (.slice a zs.length c') ∧ LabOwn w' w.heap.size (.slice a zs.length c') zs) ∧ Below w.heap.size w w' := by
  obtain ⟨la, c, rfl⟩ := intsAt_form h
  have hrow := rowAt_ints h (by omega)
  have hm : zs.length = (zs.map fun z => [Value.int .i64 z]).length := by rw [List.length_map]
  rw [hm] at hrow ⊢
  refine (list_int la c _ w hrow (fun u hu => ?_) (by rw [List.length_map]; omega)).mono ?_
  · obtain ⟨r, hr, hu⟩ := List.mem_flatten.1 hu
    obtain ⟨z, _, rfl⟩ := List.mem_map.1 hr
    simp at hu
    rw [hu]
    rfl
  · rintro e w' ⟨⟨v', rfl, ho⟩, hb⟩
    obtain ⟨a', c', rfl⟩ := own_form ho
    refine ⟨⟨a', c', rfl, ho, fun r hr => ?_⟩, hb⟩
    obtain ⟨z, _, rfl⟩ := List.mem_map.1 hr
    rfl
theorem ins_calls2 {w0 w : World} {cv : Value} {code : List InsL} (h : CodeAt w0 cv code) (hw : Below w0.heap.size w0 w) (hl : code.length * 48 ≤ 140737488355328) : ∃ la c irows, cv = .slice la irows.length c ∧ irows.length = code.length ∧ (∀ (i : Nat) r x, irows[i]? = some r → code[i]? = some x → isIns w0 r x) ∧
    Calls Tryz.prog 39 #[cv] w fun en w' => (∃ a c', en = .returned (.slice a irows.length c') ∧ OwnAt w' w.heap.size 29 4 (.slice a irows.length c') irows) ∧ Below w.heap.size w w' := by
  obtain ⟨la, c, irows, rfl, hrow, hlen, hx, hsz⟩ := listOf h
  refine ⟨la, c, irows, rfl, hlen, hx, ?_⟩
  refine (list_ins la c irows w (hrow.later hw) (fun u hu => ?_) (by omega)).mono ?_
  · obtain ⟨r, hr, hu⟩ := List.mem_flatten.1 hu
    obtain ⟨i, hi⟩ := List.getElem?_of_mem hr
    have hlt := (List.getElem?_eq_some_iff.1 hi).1
    obtain ⟨lv, rfl, hl, _⟩ := hx i r _ hi (List.getElem?_eq_getElem (by omega))
    obtain ⟨a, c', rfl⟩ := intsAt_form hl
    simp at hu
    rcases hu with rfl | rfl | rfl | rfl <;> rfl
  · rintro e w' ⟨⟨v', rfl, ho⟩, hb⟩
    obtain ⟨a', c', rfl⟩ := own_form ho
    exact ⟨⟨a', c', rfl, ho, hsz⟩, hb⟩
theorem int_calls2 {w0 w : World} {lv : Value} {zs : List Int} (h : IntsAt w0 lv zs) (hw : Below w0.heap.size w0 w) (hl : zs.length ≤ 1000000000) :
    ∀ W, Below w.heap.size w W → Calls Tryz.prog 40 #[lv] W fun en w' => (∃ a c', en = .returned (.slice a zs.length c') ∧ LabOwn w' w.heap.size (.slice a zs.length c') zs) ∧ Below w.heap.size w w' := by
  intro W hW
  refine (int_calls (intsAt_later (intsAt_later h hw) hW) hl).mono ?_
  rintro e w' ⟨⟨a, c', rfl, ho⟩, hb⟩
  exact ⟨⟨a, c', rfl, ownsRow_base ho.1 hW.size, ho.2⟩, hW.trans (hb.mono hW.size)⟩
end Go.Proofs.YtmbgemcddjailaaGreatDoor.Mod

/- ModCopyZ: How a copied module lies: own rows all, from one base. Plain but for the shape of memory. -/
namespace Go.Proofs.YtmbgemcddjailaaGreatDoor.Mod
open Go.RowKit Go.Maps Go.Proofs.YtmbgemcddjailaaGreatDoor.Op
set_option linter.unusedVariables false
def FuncsOwn (w : World) (B : Nat) (v : Value) (fs : List FuncP) : Prop := ∃ rows, OwnAt w B 32 3 v rows ∧ rows.length = fs.length ∧ ∀ (i : Nat) r x, rows[i]? = some r → fs[i]? = some x → FuncOwn w B r x
structure CopyAt (w : World) (B : Nat) (t f me g e d : Value) (rt rm rg re rd : List (List Value)) (fs : List FuncP) : Prop where
  types : OwnAt w B 25 2 t rt
  funcs : FuncsOwn w B f fs
  memory : OwnAt w B 55 2 me rm
  globals : OwnAt w B 35 3 g rg
  exports : OwnAt w B 98 3 e re
  data : OwnAt w B 57 2 d rd
theorem OwnAt.base {w : World} {B B' : Nat} {e : TypeId} {size : Nat} {v : Value} {rows : List (List Value)} (h : OwnAt w B e size v rows) (hb : B' ≤ B) : OwnAt w B' e size v rows := ⟨ownsRow_base h.1 hb, h.2⟩
theorem FuncOwn.base {w : World} {B B' : Nat} {r : List Value} {x : FuncP} (h : FuncOwn w B r x) (hb : B' ≤ B) : FuncOwn w B' r x := by
  obtain ⟨cv, h1, rows, h2, h3, h4⟩ := h
  refine ⟨cv, h1, rows, h2.base hb, h3, fun i r x hr hx => ?_⟩
  obtain ⟨lv, e1, e2, e3⟩ := h4 i r x hr hx
  exact ⟨lv, e1, OwnAt.base e2 hb, e3⟩
theorem FuncsOwn.base {w : World} {B B' : Nat} {v : Value} {fs : List FuncP} (h : FuncsOwn w B v fs) (hb : B' ≤ B) : FuncsOwn w B' v fs := by
  obtain ⟨rows, h1, h2, h3⟩ := h
  exact ⟨rows, h1.base hb, h2, fun i r x hr hx => (h3 i r x hr hx).base hb⟩
theorem CopyAt.base {w : World} {B B' : Nat} {t f me g e d : Value} {rt rm rg re rd : List (List Value)} {fs : List FuncP} (h : CopyAt w B t f me g e d rt rm rg re rd fs) (hb : B' ≤ B) : CopyAt w B' t f me g e d rt rm rg re rd fs :=
  ⟨h.types.base hb, h.funcs.base hb, h.memory.base hb, h.globals.base hb, h.exports.base hb, h.data.base hb⟩
/-- a block of some kind -/
def KindAt (w : World) (j : Nat) (t : TypeId) : Prop := ∃ cs f, w.heap[j]? = some (.cells cs t f)
theorem OwnAt.keepK {w w' : World} {B : Nat} {e : TypeId} {size : Nat} {v : Value} {rows : List (List Value)} (h : OwnAt w B e size v rows) {j : Nat} {t : TypeId} (k : Keeps (fun i => i = j) w w') (hj : KindAt w j t) (hne : e ≠ t) : OwnAt w' B e size v rows := by
  obtain ⟨cs, f, hk⟩ := hj
  exact h.keeps k (fun i hi => .inr ⟨cs, t, f, by obtain rfl : i = j := hi; exact hk, hne⟩)
theorem FuncsOwn.keepK {w w' : World} {B : Nat} {v : Value} {fs : List FuncP} (h : FuncsOwn w B v fs) {j : Nat} {t : TypeId} (k : Keeps (fun i => i = j) w w') (hj : KindAt w j t) (h1 : 32 ≠ t) (h2 : 29 ≠ t) (h3 : 3 ≠ t) : FuncsOwn w' B v fs := by
  obtain ⟨rows, q1, q2, q3⟩ := h
  refine ⟨rows, q1.keepK k hj h1, q2, fun i r x hr hx => ?_⟩
  obtain ⟨cs, f, hk⟩ := hj
  exact (q3 i r x hr hx).keeps k (fun i hi => .inr ⟨cs, t, f, by obtain rfl : i = j := hi; exact hk, h3, h2⟩)
theorem CopyAt.keepK {w w' : World} {B : Nat} {t f me g e d : Value} {rt rm rg re rd : List (List Value)} {fs : List FuncP} (h : CopyAt w B t f me g e d rt rm rg re rd fs) {j : Nat} (k : Keeps (fun i => i = j) w w') (hj : KindAt w j 41) : CopyAt w' B t f me g e d rt rm rg re rd fs :=
  ⟨h.types.keepK k hj (by decide), h.funcs.keepK k hj (by decide) (by decide) (by decide), h.memory.keepK k hj (by decide), h.globals.keepK k hj (by decide), h.exports.keepK k hj (by decide), h.data.keepK k hj (by decide)⟩
theorem keeps_foot {w w' : World} {B : Nat} {e0 e : TypeId} {size size0 : Nat} {v v0 : Value} {rows rows0 : List (List Value)} (h : OwnAt w B e size v rows) (h0 : OwnAt w B e0 size0 v0 rows0) (k : Keeps (fun j => v0.ownBlock = some j) w w') (hne : e ≠ e0) : OwnAt w' B e size v rows :=
  h.keeps k (fun i hi => .inr (by
    obtain ⟨c, fz, hk⟩ := Lib.ownsRow_kind h0.1 i hi
    exact ⟨c, e0, fz, hk, hne⟩))
theorem copy_outer {b : Nat} {t f me g e : Value} {st : Int} {d : Value} {W0 wc wo : World} {ob : Nat} {vt vf vm vg ve vd : Value} {rt rf rm rg re rd : List (List Value)} {fs : List FuncP}
    (h : HeadAt b t f me g e st d W0 ob vt vf vm vg ve vd rt rf rm rg re rd wc) (o : OutAt wc W0.heap.size vf rf fs rf.length wo) (hl : rf.length = fs.length) :
    CopyAt wo W0.heap.size vt vf vm vg ve vd rt rm rg re rd fs ∧ Below W0.heap.size W0 wo ∧ wo.heap[ob]? = some (.cells #[vt, vf, vm, vg, ve, .int .i64 st, vd] 41 (0, 0)) := by
  obtain ⟨hH, hob, hbox, oa, owf, oc, od, oe, of⟩ := h
  obtain ⟨rows, r1, r2, r3, r4, r5⟩ := o
  refine ⟨⟨keeps_foot oa owf r5 (by decide), ⟨rows, r2, by omega, fun i r x hr hx => r4 i r x (by have := (List.getElem?_eq_some_iff.1 hr).1; omega) hr hx⟩, keeps_foot oc owf r5 (by decide), keeps_foot od owf r5 (by decide), keeps_foot oe owf r5 (by decide), keeps_foot of owf r5 (by decide)⟩, ?_, ?_⟩
  · refine hH.2.2.2.2.2.2.2.trans ((r5.below (B := W0.heap.size) (fun j hj => (owf.1.lt j hj).1) hH.2.2.2.2.2.2.2.size))
  · exact (r5.block ob (Array.getElem?_eq_some_iff.1 hbox).1 (fun hj => kind_ne owf.1 hbox (by decide) hj)).trans hbox
theorem box_cells {W : World} {b : Nat} {u0 u1 u2 u3 u4 u5 u6 : Value} (z : W.heap[b]? = some (.cells #[u0, u1, u2, u3, u4, u5, u6] 41 (0, 0))) : W.cell? ⟨b, 0, none⟩ = some u0 ∧ W.cell? ⟨b, 1, none⟩ = some u1 ∧ W.cell? ⟨b, 2, none⟩ = some u2 ∧ W.cell? ⟨b, 3, none⟩ = some u3 ∧ W.cell? ⟨b, 4, none⟩ = some u4 ∧ W.cell? ⟨b, 5, none⟩ = some u5 ∧ W.cell? ⟨b, 6, none⟩ = some u6 :=
  ⟨cell_of_row _ _ _ _ _ _ z, cell_of_row _ _ _ _ _ _ z, cell_of_row _ _ _ _ _ _ z, cell_of_row _ _ _ _ _ _ z, cell_of_row _ _ _ _ _ _ z, cell_of_row _ _ _ _ _ _ z, cell_of_row _ _ _ _ _ _ z⟩
/-- what Copy leaves -/
def CopyDone (w : World) (st : Int) (rt rm rg re rd : List (List Value)) (fs : List FuncP) (en : Ending) (w' : World) : Prop :=
  ∃ t f me g e d, en = .returned (modV t f me g e st d) ∧ CopyAt w' w.heap.size t f me g e d rt rm rg re rd fs ∧ Below w.heap.size w w'
theorem copy_done {w W0 wo W7 : World} {st : Int} {vt vf vm vg ve vd : Value} {rt rm rg re rd : List (List Value)} {fs : List FuncP} (hc : CopyAt wo W0.heap.size vt vf vm vg ve vd rt rm rg re rd fs) (h0 : Below w.heap.size w W0) (hb : Below W0.heap.size W0 wo) (hz : ZeroAt wo (w.heap.size + 1))
    (h7 : (((((((wo.setCell ⟨w.heap.size + 1, 0, none⟩ vt).setCell ⟨w.heap.size + 1, 1, none⟩ vf).setCell ⟨w.heap.size + 1, 2, none⟩ vm).setCell ⟨w.heap.size + 1, 3, none⟩ vg).setCell ⟨w.heap.size + 1, 4, none⟩ ve).setCell ⟨w.heap.size + 1, 5, none⟩ (.int .i64 st)).setCell ⟨w.heap.size + 1, 6, none⟩ vd) = W7) :
    CopyDone w st rt rm rg re rd fs (.returned (modV vt vf vm vg ve st vd)) W7 := by
  obtain ⟨q1, q2, q3⟩ := seven_setC hz _ _ _ _ _ _ _ _ h7
  refine ⟨vt, vf, vm, vg, ve, vd, rfl, (hc.keepK q3 ⟨_, _, hz⟩).base h0.size, ?_⟩
  refine (h0.trans (hb.mono h0.size)).trans (q3.below (fun j hj => by have : j = _ := hj; omega) ?_)
  exact Nat.le_trans h0.size hb.size
end Go.Proofs.YtmbgemcddjailaaGreatDoor.Mod

/- ModCopyB: What package module's Copy answers. No condition but that the module's lists have room. -/
namespace Go.Proofs.YtmbgemcddjailaaGreatDoor.Mod
open Go.RowKit Go.Maps Go.Proofs.YtmbgemcddjailaaGreatDoor.Op
set_option linter.unusedVariables false
set_option maxRecDepth 100000 in
set_option maxHeartbeats 8000000 in
theorem copy_any (t f me g e : Value) (st : Int) (d : Value) (w : World) (rt rf rm rg re rd : List (List Value))
    (ht : Listed 33 25 2 w.heap.size w t rt)
    (hf : Listed 34 32 3 w.heap.size w f rf)
    (hm : Listed 35 55 2 w.heap.size w me rm)
    (hg : Listed 36 35 3 w.heap.size w g rg)
    (he : Listed 37 98 3 w.heap.size w e re)
    (hd : Listed 38 57 2 w.heap.size w d rd)
    (fs : List FuncP) (hFL : rf.length = fs.length) (hFS : ∀ (i : Nat) r x, rf[i]? = some r → fs[i]? = some x → isFunc w r x) (hFlen : rf.length ≤ 1000000000) (hroom : ∀ x ∈ fs, ∀ y ∈ x.code, y.labels.length ≤ 1000000000) :
    Calls Tryz.prog 14 #[modV t f me g e st d] w (CopyDone w st rt rm rg re rd fs) := by
  have HT := Lib.hid ht
  have HF := Lib.hid hf
  have HM := Lib.hid hm
  have HG := Lib.hid hg
  have HE := Lib.hid he
  have HD := Lib.hid hd
  have HFS := Lib.hid hFS
  have HROOM := Lib.hid hroom
  have HFL := Lib.hid hFL
  clear hFS hroom hFL
  clear ht hf hm hg he hd
  unfold modV
  obtain ⟨W0, hW0⟩ : ∃ W0, (w.alloc (.cells #[t, f, me, g, e, .int .i64 st, d] 41)).alloc (.cells #[.slice none 0 0, .slice none 0 0, .slice none 0 0, .slice none 0 0, .slice none 0 0, .int .i64 0, .slice none 0 0] 41) = W0 := ⟨_, rfl⟩
  have B0 : Below w.heap.size w W0 := by rw [← hW0]; exact ((Below.refl _ _).alloc (Nat.le_refl _) _).alloc (by simp) _
  have hH0 : HeldC w.heap.size t f me g e st d W0 W0 := by
    refine ⟨?_, ?_, ?_, ?_, ?_, ?_, ?_, Below.refl _ _⟩ <;> (rw [← hW0]; simp)
  have hz0 : W0.heap.size = w.heap.size + 2 := by rw [← hW0]; simp
  have HLT := Lib.hid (show w.heap.size < W0.heap.size by omega)
  have HZ0 := Lib.hid hz0
  have HZR := Lib.hid (show ZeroAt W0 (w.heap.size + 1) by
    have := heap_alloc_new (w.alloc (.cells #[t, f, me, g, e, .int .i64 st, d] 41)) (.cells zeroC 41)
    rw [show (w.alloc (.cells #[t, f, me, g, e, .int .i64 st, d] 41)).heap.size = w.heap.size + 1 by simp] at this
    rw [← hW0]
    exact this)
  have HH := Lib.hid hH0
  have HB0 := Lib.hid B0
  clear hH0 B0 hz0
  go_enter Tryz.func14, Tryz.ntmps14
  go_upto_region 1 with fail
  clear hW0
  obtain ⟨h0, h1, h2, h3, h4, h5, h6, _⟩ := HH.out
  go_cut [3] (fun s3 wx => ∃ ob aa qa ab qb ac qc ad qd ae qe af qf, s3 = .pointer (some ⟨ob, 0, none⟩) ∧ HeadAt w.heap.size t f me g e st d W0 ob (.slice aa rt.length qa) (.slice ab rf.length qb) (.slice ac rm.length qc) (.slice ad rg.length qd) (.slice ae re.length qe) (.slice af rd.length qf) rt rf rm rg re rd wx)
  case first =>
    go_region_held3 (fun W => HeldC w.heap.size t f me g e st d W0 W) (first | (with_reducible assumption) | (with_reducible exact heldC_drew HH.out) | (with_reducible exact heldC_alloc _ (heldC_drew HH.out)) | (with_reducible exact heldC_drew (heldC_alloc _ HH.out)) | (with_reducible exact heldC_alloc _ Sa.out) | (with_reducible exact heldC_alloc _ Sb.out) | (with_reducible exact heldC_alloc _ Sc.out) | (with_reducible exact heldC_alloc _ Sd.out) | (with_reducible exact heldC_alloc _ Se.out) | (with_reducible exact heldC_alloc _ (by with_reducible assumption)) | (with_reducible exact heldC_drew (by with_reducible assumption)) | (with_reducible exact heldC_alloc _ (heldC_drew (by with_reducible assumption))) | (with_reducible exact heldC_alloc _ Sf.out) | (with_reducible exact heldC_sets HLT.out (Nat.le_refl _) _ _ _ _ _ _ _ Sf.out) | (with_reducible exact heldC_sets HLT.out Sa.out.2.2.2.2.2.2.2.size _ _ _ _ _ _ _ Sf.out) | (with_reducible exact heldC_sets HLT.out Sb.out.2.2.2.2.2.2.2.size _ _ _ _ _ _ _ Sf.out) | (with_reducible exact heldC_sets HLT.out Sc.out.2.2.2.2.2.2.2.size _ _ _ _ _ _ _ Sf.out) | (with_reducible exact heldC_sets HLT.out Sd.out.2.2.2.2.2.2.2.size _ _ _ _ _ _ _ Sf.out) | (with_reducible exact heldC_sets HLT.out Se.out.2.2.2.2.2.2.2.size _ _ _ _ _ _ _ Sf.out))
      (first
        | (go_at_call 33; refine (HT.out _ ?_ ?_).mono ?_; (exact HB0.out.trans ((‹HeldC w.heap.size t f me g e st d W0 _›).2.2.2.2.2.2.2.mono HB0.out.size)); (exact Nat.le_trans HB0.out.size (‹HeldC w.heap.size t f me g e st d W0 _›).2.2.2.2.2.2.2.size); rintro en Wa ⟨⟨aa, qa, rfl, oa⟩, ca⟩; have Sa := Lib.hid (heldC_later (b := w.heap.size) (t := t) (f := f) (me := me) (g := g) (e := e) (st := st) (d := d) (W0 := W0) ca (by with_reducible assumption)); have ka := Sa.out; (first | (with_reducible refine (fun (zz : Hid (ZeroAt Wa W0.heap.size)) => ?_) (Lib.hid (zero_after_d1 ca))) | (with_reducible refine (fun (zz : Hid (ZeroAt Wa W0.heap.size)) => ?_) (Lib.hid (zero_after_d2 ca))) | skip))
        | (go_at_call 34; refine (HF.out _ ?_ ?_).mono ?_; (exact HB0.out.trans ((‹HeldC w.heap.size t f me g e st d W0 _›).2.2.2.2.2.2.2.mono HB0.out.size)); (exact Nat.le_trans HB0.out.size (‹HeldC w.heap.size t f me g e st d W0 _›).2.2.2.2.2.2.2.size); rintro en Wb ⟨⟨ab, qb, rfl, ob⟩, cb⟩; have Sb := Lib.hid (heldC_later (b := w.heap.size) (t := t) (f := f) (me := me) (g := g) (e := e) (st := st) (d := d) (W0 := W0) cb (by with_reducible assumption)); have kb := Sb.out; (first | (with_reducible refine (fun zz => ?_) (Lib.hid (zero_later zz.out cb))) | (with_reducible refine (fun zz => ?_) (Lib.hid (zero_after cb))) | skip))
        | (go_at_call 35; refine (HM.out _ ?_ ?_).mono ?_; (exact HB0.out.trans ((‹HeldC w.heap.size t f me g e st d W0 _›).2.2.2.2.2.2.2.mono HB0.out.size)); (exact Nat.le_trans HB0.out.size (‹HeldC w.heap.size t f me g e st d W0 _›).2.2.2.2.2.2.2.size); rintro en Wc ⟨⟨ac, qc, rfl, oc⟩, cc⟩; have Sc := Lib.hid (heldC_later (b := w.heap.size) (t := t) (f := f) (me := me) (g := g) (e := e) (st := st) (d := d) (W0 := W0) cc (by with_reducible assumption)); have kc := Sc.out; (first | (with_reducible refine (fun zz => ?_) (Lib.hid (zero_later zz.out cc))) | (with_reducible refine (fun zz => ?_) (Lib.hid (zero_after cc))) | skip))
        | (go_at_call 36; refine (HG.out _ ?_ ?_).mono ?_; (exact HB0.out.trans ((‹HeldC w.heap.size t f me g e st d W0 _›).2.2.2.2.2.2.2.mono HB0.out.size)); (exact Nat.le_trans HB0.out.size (‹HeldC w.heap.size t f me g e st d W0 _›).2.2.2.2.2.2.2.size); rintro en Wd ⟨⟨ad, qd, rfl, od⟩, cd⟩; have Sd := Lib.hid (heldC_later (b := w.heap.size) (t := t) (f := f) (me := me) (g := g) (e := e) (st := st) (d := d) (W0 := W0) cd (by with_reducible assumption)); have kd := Sd.out; (first | (with_reducible refine (fun zz => ?_) (Lib.hid (zero_later zz.out cd))) | (with_reducible refine (fun zz => ?_) (Lib.hid (zero_after cd))) | skip))
        | (go_at_call 37; refine (HE.out _ ?_ ?_).mono ?_; (exact HB0.out.trans ((‹HeldC w.heap.size t f me g e st d W0 _›).2.2.2.2.2.2.2.mono HB0.out.size)); (exact Nat.le_trans HB0.out.size (‹HeldC w.heap.size t f me g e st d W0 _›).2.2.2.2.2.2.2.size); rintro en We ⟨⟨ae, qe, rfl, oe⟩, ce⟩; have Se := Lib.hid (heldC_later (b := w.heap.size) (t := t) (f := f) (me := me) (g := g) (e := e) (st := st) (d := d) (W0 := W0) ce (by with_reducible assumption)); have ke := Se.out; (first | (with_reducible refine (fun zz => ?_) (Lib.hid (zero_later zz.out ce))) | (with_reducible refine (fun zz => ?_) (Lib.hid (zero_after ce))) | skip))
        | (go_at_call 38; refine (HD.out _ ?_ ?_).mono ?_; (exact HB0.out.trans ((‹HeldC w.heap.size t f me g e st d W0 _›).2.2.2.2.2.2.2.mono HB0.out.size)); (exact Nat.le_trans HB0.out.size (‹HeldC w.heap.size t f me g e st d W0 _›).2.2.2.2.2.2.2.size); rintro en Wf ⟨⟨af, qf, rfl, of⟩, cf⟩; have Sf := Lib.hid (heldC_later (b := w.heap.size) (t := t) (f := f) (me := me) (g := g) (e := e) (st := st) (d := d) (W0 := W0) cf (by with_reducible assumption)); have kf := Sf.out; (first | (with_reducible refine (fun zz => ?_) (Lib.hid (zero_later zz.out cf))) | (with_reducible refine (fun zz => ?_) (Lib.hid (zero_after cf))) | skip); (first | ((with_reducible refine (fun zy => ?_) (zero_cells zz.out)); obtain ⟨⟨z0, z1, z2, z3, z4, z5, z6⟩, y0, y1, y2, y3, y4, y5, y6⟩ := zy) | skip)))
    all_goals
      go_wp2_with fail
      have la : Below Wa.heap.size Wa Wb := (by first | (with_reducible exact cb) | (with_reducible exact link_alloc cb) | (with_reducible exact link_drew cb) | (with_reducible exact link_alloc_drew cb) | (with_reducible exact link_drew_alloc cb))
      have lb : Below Wb.heap.size Wb Wc := (by first | (with_reducible exact cc) | (with_reducible exact link_alloc cc) | (with_reducible exact link_drew cc) | (with_reducible exact link_alloc_drew cc) | (with_reducible exact link_drew_alloc cc))
      have lc : Below Wc.heap.size Wc Wd := (by first | (with_reducible exact cd) | (with_reducible exact link_alloc cd) | (with_reducible exact link_drew cd) | (with_reducible exact link_alloc_drew cd) | (with_reducible exact link_drew_alloc cd))
      have ld : Below Wd.heap.size Wd We := (by first | (with_reducible exact ce) | (with_reducible exact link_alloc ce) | (with_reducible exact link_drew ce) | (with_reducible exact link_alloc_drew ce) | (with_reducible exact link_drew_alloc ce))
      have le : Below We.heap.size We Wf := (by first | (with_reducible exact cf) | (with_reducible exact link_alloc cf) | (with_reducible exact link_drew cf) | (with_reducible exact link_alloc_drew cf) | (with_reducible exact link_drew_alloc cf))
      have sa : W0.heap.size ≤ Wa.heap.size := ka.2.2.2.2.2.2.2.size
      have sb : W0.heap.size ≤ Wb.heap.size := kb.2.2.2.2.2.2.2.size
      have sc : W0.heap.size ≤ Wc.heap.size := kc.2.2.2.2.2.2.2.size
      have sd : W0.heap.size ≤ Wd.heap.size := kd.2.2.2.2.2.2.2.size
      have se : W0.heap.size ≤ We.heap.size := ke.2.2.2.2.2.2.2.size
      have sf : W0.heap.size ≤ Wf.heap.size := kf.2.2.2.2.2.2.2.size
      have mf : Below Wf.heap.size Wf Wf := Below.refl _ _
      have me : Below We.heap.size We Wf := le.trans (mf.mono le.size)
      have md : Below Wd.heap.size Wd Wf := ld.trans (me.mono ld.size)
      have mc : Below Wc.heap.size Wc Wf := lc.trans (md.mono lc.size)
      have mb : Below Wb.heap.size Wb Wf := lb.trans (mc.mono lb.size)
      have ma : Below Wa.heap.size Wa Wf := la.trans (mb.mono la.size)
      have Oa := OwnAt.lift (B' := W0.heap.size) oa (by first | exact Nat.le_refl _ | assumption | (simp; done) | (simp; omega)) ma
      have Ob := OwnAt.lift (B' := W0.heap.size) ob (by first | exact Nat.le_refl _ | assumption | (simp; done) | (simp; omega)) mb
      have Oc := OwnAt.lift (B' := W0.heap.size) oc (by first | exact Nat.le_refl _ | assumption | (simp; done) | (simp; omega)) mc
      have Od := OwnAt.lift (B' := W0.heap.size) od (by first | exact Nat.le_refl _ | assumption | (simp; done) | (simp; omega)) md
      have Oe := OwnAt.lift (B' := W0.heap.size) oe (by first | exact Nat.le_refl _ | assumption | (simp; done) | (simp; omega)) me
      have Of := OwnAt.lift (B' := W0.heap.size) of (by first | exact Nat.le_refl _ | assumption | (simp; done) | (simp; omega)) mf
      go_meet
      case rel =>
        refine ⟨_, aa, qa, ab, qb, ac, qc, ad, qd, ae, qe, af, qf, rfl, ?_⟩
        first
        | (with_reducible exact head_alloc kf Oa Ob Oc Od Oe Of)
        | (with_reducible exact head_sets HLT.out (Nat.le_refl _) zz.out kf Oa Ob Oc Od Oe Of)
        | (with_reducible exact head_sets HLT.out sa zz.out kf Oa Ob Oc Od Oe Of)
        | (with_reducible exact head_sets HLT.out sb zz.out kf Oa Ob Oc Od Oe Of)
        | (with_reducible exact head_sets HLT.out sc zz.out kf Oa Ob Oc Od Oe Of)
        | (with_reducible exact head_sets HLT.out sd zz.out kf Oa Ob Oc Od Oe Of)
        | (with_reducible exact head_sets HLT.out se zz.out kf Oa Ob Oc Od Oe Of)
  case rest =>
    obtain ⟨ob, aa, qa, ab, qb, ac, qc, ad, qd, ae, qe, af, qf, rfl, hC⟩ := hcut
    obtain ⟨hHeld, hob, hbox, oa, owf, oc, od, oe, of⟩ := hC
    have HHeld := Lib.hid hHeld
    have HOB := Lib.hid hob
    have HBOX := Lib.hid hbox
    have HOF := Lib.hid owf
    have HOWN := Lib.hid (And.intro oa (And.intro oc (And.intro od (And.intro oe of))))
    have b1 : wc.cell? ⟨ob, 1, none⟩ = some (.slice ab rf.length qb) := cell_of_row _ _ _ _ _ _ hbox
    clear hHeld hob hbox oa owf oc od oe of h0 h1 h2 h3 h4 h5 h6
    go_wp2_with fail
    clear b1
    go_loopg [31] rf.length (fun gk i wr => ∃ k : Nat, k ≤ rf.length ∧ gk = rf.length - k ∧ i = .int .i64 k ∧ OutAt wc W0.heap.size (.slice ab rf.length qb) rf fs k wr)
    case atStart => exact ⟨0, Nat.zero_le _, rfl, rfl, out_start fs HOF.out⟩
    case round =>
      obtain ⟨k, hk, rfl, rfl, hO⟩ := hrel
      obtain ⟨wo, rfl⟩ : ∃ wo : World, wo = wr := ⟨_, rfl⟩
      have HO := Lib.hid hO
      by_cases hlt : k < rf.length
      · obtain ⟨r, hr⟩ : ∃ r, rf[k]? = some r := ⟨_, List.getElem?_eq_getElem hlt⟩
        obtain ⟨x, hx⟩ : ∃ x, fs[k]? = some x := ⟨_, List.getElem?_eq_getElem (by have := HFL.out; omega)⟩
        obtain ⟨cv, rfl, hcode, hloc, hcl⟩ := HFS.out k r x hr hx
        obtain ⟨g, cap, hg, hgB, hgl⟩ := HOF.out.block hr
        simp only [Value.slice.injEq, true_and] at hg
        obtain ⟨rfl, rfl⟩ := hg
        obtain ⟨rows, r1, r2, r3, r4, r5⟩ := HO.out
        have hkb : Below W0.heap.size wc wo := r5.below (fun j hj => by simp [Value.ownBlock] at hj; omega) HHeld.out.2.2.2.2.2.2.2.size
        have hBw : Below w.heap.size w wo := (HB0.out.trans (HHeld.out.2.2.2.2.2.2.2.mono HB0.out.size)).trans (hkb.mono HB0.out.size)
        have HSZ := Lib.hid (show W0.heap.size ≤ wo.heap.size from Nat.le_trans HHeld.out.2.2.2.2.2.2.2.size hkb.size)
        have hne : g ≠ ob := fun e => kind_ne HOF.out.1 HBOX.out (by decide) (by rw [e]; rfl)
        have hboxr : wo.heap[ob]? = _ := (r5.block ob (Array.getElem?_eq_some_iff.1 HBOX.out).1 (fun hj => by simp [Value.ownBlock] at hj; exact hne hj)).trans HBOX.out
        have HBR := Lib.hid hboxr
        have b1 : wo.cell? ⟨ob, 1, none⟩ = some (.slice (some ⟨g, 0, none⟩) rf.length qb) := cell_of_row _ _ _ _ _ _ hboxr
        have hrk := (r3 k (Nat.le_refl _)).trans hr
        have b2 : wo.cell? ⟨g, k * 3 + 2, none⟩ = some cv := r2.cell (by omega) hrk rfl
        have hgr : g < wo.heap.size := (r2.1.lt g rfl).2
        obtain ⟨la, c, irows, rfl, hil, hix, hcall⟩ := ins_calls2 hcode hBw hcl
        have HCALL := Lib.hid hcall
        have HIX := Lib.hid hix
        have HIL := Lib.hid hil
        have HR2 := Lib.hid r2
        have HR1 := Lib.hid r1
        have HR := Lib.hid hr
        have HRK := Lib.hid hrk
        have HX := Lib.hid hx
        have HNE := Lib.hid hne
        have HBW := Lib.hid hBw
        have HGR := Lib.hid hgr
        have d1 : decide (k < rf.length) = true := decide_eq_true hlt
        clear hcall hix hil r1 r2 r3 r4 r5 hkb hBw hboxr hrk hr hx hne hO hcode
        go_wp2_with fail
        refine HCALL.out.mono ?_
        rintro e1 w1 ⟨⟨ia, ic, rfl, ho⟩, hb⟩
        have HOI := Lib.hid ho
        have HB1 := Lib.hid hb
        have b2' : w1.cell? ⟨g, k * 3 + 2, none⟩ = some (.slice la irows.length c) := cell_later hb b2
        have b3 : w1.frozen? ⟨g, k * 3 + 2, none⟩ = false := (HR2.out.later hb).soft _
        clear b1 b2 ho hb
        go_wp2_with fail
        obtain ⟨w2, hw2⟩ : ∃ w2, w1.setCell ⟨g, k * 3 + 2, none⟩ (.slice ia irows.length ic) = w2 := ⟨_, rfl⟩
        have k2 : Keeps (fun j => j = g) w1 w2 := by rw [← hw2]; exact Keeps.setCell (F := fun j => j = g) w1 _ _ rfl
        have hput : OwnAt w2 W0.heap.size 32 3 (.slice (some ⟨g, 0, none⟩) rf.length qb) (rows.set k [.int .i64 x.ty, .string x.locals, .slice ia irows.length ic]) := by rw [← hw2]; exact (HR2.out.later HB1.out).put HR1.out.symm HRK.out (p := 2) (by omega) (.slice ia irows.length ic)
        have c2 : w2.cell? ⟨g, k * 3 + 2, none⟩ = some (.slice ia irows.length ic) := hput.cell (by omega) (List.getElem?_set_self (List.getElem?_eq_some_iff.1 HRK.out).1) rfl
        obtain ⟨cs1, fz1, hk1⟩ := Lib.ownsRow_kind (HR2.out.later HB1.out).1 g rfl
        have hin : OwnAt w2 W0.heap.size 29 4 (.slice ia irows.length ic) irows := OwnAt.keeps (OwnAt.lift HOI.out HSZ.out (Below.refl _ _)) k2 (fun j hj => .inr ⟨cs1, 32, fz1, by obtain rfl : j = g := hj; exact hk1, by decide⟩)
        have HIN := Lib.hid hin
        have HW2 := Lib.hid hw2
        have HC2 := Lib.hid c2
        have HKG := Lib.hid (show w2.heap[g]? = some _ from by rw [← hw2]; exact box_set hk1 _ _)
        have HK2 := Lib.hid k2
        rw [hw2]
        clear hw2 hin hk1 hput k2 b2' b3
        go_wp2_with fail
        clear c2
        go_loopg [51] irows.length (fun gi i wi => ∃ j : Nat, j ≤ irows.length ∧ gi = irows.length - j ∧ i = .int .i64 j ∧ InAt w2 W0.heap.size (.slice ia irows.length ic) irows x.code j wi)
        case atStart => exact ⟨0, Nat.zero_le _, rfl, rfl, in_start x.code HIN.out⟩
        case round =>
          obtain ⟨j, hj, rfl, rfl, hI⟩ := hrel
          have HI := Lib.hid hI
          by_cases hjl : j < irows.length
          · obtain ⟨ir, hir⟩ : ∃ ir, irows[j]? = some ir := ⟨_, List.getElem?_eq_getElem hjl⟩
            obtain ⟨y, hy⟩ : ∃ y, x.code[j]? = some y := ⟨_, List.getElem?_eq_getElem (by have := HIL.out; omega)⟩
            obtain ⟨lv, rfl, hlv, hwf⟩ := HIX.out j ir y hir hy
            obtain ⟨gi, icap, hgi, hgiB, hgil⟩ := HIN.out.block hir
            simp only [Value.slice.injEq, true_and] at hgi
            obtain ⟨rfl, rfl⟩ := hgi
            obtain ⟨irs, q1, q2, q3, q4, q5⟩ := HI.out
            have hgi2 : wo.heap.size ≤ gi := (HOI.out.1.lt gi rfl).1
            have hng : g ≠ gi := by have := HGR.out; omega
            have s1 : W0.heap.size ≤ w1.heap.size := Nat.le_trans HSZ.out HB1.out.size
            have s2 : W0.heap.size ≤ w2.heap.size := Nat.le_trans s1 HK2.out.size
            have hBwi : Below w.heap.size w wr := ((HBW.out.trans (HB1.out.mono HBW.out.size)).trans ((HK2.out.below (B := W0.heap.size) (fun j hj => by obtain rfl : j = g := hj; exact hgB) s1).mono HB0.out.size)).trans ((q5.below (B := W0.heap.size) (fun j hj => by simp [Value.ownBlock] at hj; omega) s2).mono HB0.out.size)
            have e1 : wr.cell? ⟨g, k * 3 + 2, none⟩ = some (.slice (some ⟨gi, 0, none⟩) irows.length ic) := q5.cell HC2.out (fun hj => by simp [Value.ownBlock] at hj; exact hng hj.symm)
            have e2 : wr.cell? ⟨gi, j * 4 + 3, none⟩ = some lv := q2.cell (by omega) ((q3 j (Nat.le_refl _)).trans hir) rfl
            have HQ2 := Lib.hid q2
            have HCL := Lib.hid (int_calls2 hlv hBwi (HROOM.out x (List.mem_of_getElem? HX.out) y (List.mem_of_getElem? hy)))
            obtain ⟨la2, lc2, rfl⟩ := intsAt_form hlv
            have HIR := Lib.hid hir
            have HY := Lib.hid hy
            have d2 : decide (j < irows.length) = true := decide_eq_true hjl
            have hgi3 : gi < wr.heap.size := (q2.1.lt gi rfl).2
            have HG3 := Lib.hid hgi3
            have HSZ2 := Lib.hid (show W0.heap.size ≤ wr.heap.size from Nat.le_trans s2 q5.size)
            have HWF := Lib.hid hwf
            clear hI hir hy hlv q1 q2 q3 q4 q5 hBwi hng hgiB hgil hgi2 s1 s2 hgi3
            go_wp2_with fail
            go_region_with (go_at_call 40; refine (HCL.out _ ?_).mono ?_; (first | exact Below.refl _ _ | exact (Below.refl _ _).drew); rintro en w3 ⟨⟨la3, lc3, rfl, ho3⟩, hb3⟩; have e3 : w3.cell? ⟨g, k * 3 + 2, none⟩ = some (.slice (some ⟨gi, 0, none⟩) irows.length ic) := cell_later hb3 e1; have e4 : w3.cell? ⟨gi, j * 4 + 3, none⟩ = some (.slice la2 y.labels.length lc2) := cell_later hb3 e2; have e5 : w3.frozen? ⟨gi, j * 4 + 3, none⟩ = false := (HQ2.out.later hb3).soft _)
            all_goals
              go_wp2_with fail
              go_roundg (irows.length - (j + 1))
              case measure => omega
              case rel => have hb9 := HIL.out; have hb8 : j < 4611686018427387904 := by omega
                          exact ⟨j + 1, by omega, rfl, (by rw [show wrap64 ((j : Int) + 1) = (j : Int) + 1 from IntWalk.wrap64_in _ (by omega)]; rfl), in_step HI.out rfl HIR.out HY.out HWF.out HSZ2.out hb3 ho3⟩
          · have d2 : decide (j < irows.length) = false := decide_eq_false hjl
            clear hI
            go_wp2_with fail
            go_roundg (rf.length - (k + 1))
            case measure => omega
            case rel =>
              refine ⟨k + 1, by omega, rfl, by go_num, ?_⟩
              have hjc : j = x.code.length := by have := HIL.out; omega
              have hI2 := HI.out
              rw [hjc, ← HW2.out] at hI2
              exact out_step HO.out rfl HR.out HX.out HSZ.out HB1.out HOI.out HIL.out hI2
      · obtain rfl : k = rf.length := by omega
        obtain ⟨hc9, hb9, hbox9⟩ := copy_outer ⟨HHeld.out, HOB.out, HBOX.out, HOWN.out.1, HOF.out, HOWN.out.2.1, HOWN.out.2.2.1, HOWN.out.2.2.2.1, HOWN.out.2.2.2.2⟩ HO.out HFL.out
        have hz9 : ZeroAt wo (w.heap.size + 1) := (hb9.block _ (by have := HZ0.out; omega)).trans HZR.out
        have HC9 := Lib.hid hc9
        have HB9 := Lib.hid hb9
        have HZ9 := Lib.hid hz9
        obtain ⟨b0, b1, b2, b3, b4, b5, b6⟩ := box_cells hbox9
        obtain ⟨⟨z0, z1, z2, z3, z4, z5, z6⟩, y0, y1, y2, y3, y4, y5, y6⟩ := zero_cells hz9
        have d1 : decide (rf.length < rf.length) = false := decide_eq_false (Nat.lt_irrefl _)
        clear hc9 hb9 hz9 hbox9 hO hlt hk
        go_wp2_with fail
        obtain ⟨W7, hW7⟩ : ∃ W7, (((((((wo.setCell ⟨w.heap.size + 1, 0, none⟩ (.slice aa rt.length qa)).setCell ⟨w.heap.size + 1, 1, none⟩ (.slice ab rf.length qb)).setCell ⟨w.heap.size + 1, 2, none⟩ (.slice ac rm.length qc)).setCell ⟨w.heap.size + 1, 3, none⟩ (.slice ad rg.length qd)).setCell ⟨w.heap.size + 1, 4, none⟩ (.slice ae re.length qe)).setCell ⟨w.heap.size + 1, 5, none⟩ (.int .i64 st)).setCell ⟨w.heap.size + 1, 6, none⟩ (.slice af rd.length qf)) = W7 := ⟨_, rfl⟩
        rw [hW7]
        have hdone := copy_done HC9.out HB0.out HB9.out HZ9.out hW7
        obtain ⟨hb7, _, _⟩ := seven_setC HZ9.out _ _ _ _ _ _ _ _ hW7
        obtain ⟨p0, p1, p2, p3, p4, p5, p6⟩ := box_cells hb7
        exact bodyPost_ret (v := modV (.slice aa rt.length qa) (.slice ab rf.length qb) (.slice ac rm.length qc) (.slice ad rg.length qd) (.slice ae re.length qe) st (.slice af rd.length qf)) (by simp [results, Tryz.results14, go_sem, p0, p1, p2, p3, p4, p5, p6]; rfl) rfl hdone
end Go.Proofs.YtmbgemcddjailaaGreatDoor.Mod

/- ModCopyC: Copy of any module that has room, and what a copy reads as. No condition but that the module's lists have room. -/
namespace Go.Proofs.YtmbgemcddjailaaGreatDoor.Mod
open Go.RowKit Go.Maps Go.Proofs.YtmbgemcddjailaaGreatDoor.Op
set_option linter.unusedVariables false
/-- a module's lists have room -/
structure ModRoom (m : ModP) : Prop where
  types : m.types.length ≤ 1000000000 ∧ ∀ x ∈ m.types, x.params.size ≤ 9223372036854775807 ∧ x.results.size ≤ 9223372036854775807
  funcs : m.funcs.length ≤ 1000000000 ∧ ∀ x ∈ m.funcs, x.locals.size ≤ 9223372036854775807 ∧ x.code.length * 48 ≤ 140737488355328 ∧ ∀ y ∈ x.code, y.labels.length ≤ 1000000000
  memory : m.memory.length ≤ 1000000000
  globals : m.globals.length ≤ 1000000000
  exports : m.exports.length ≤ 1000000000 ∧ ∀ x ∈ m.exports, x.name.size ≤ 9223372036854775807
  data : m.data.length ≤ 1000000000 ∧ ∀ x ∈ m.data, x.bytes.size ≤ 9223372036854775807
theorem ModRoom.labs {m : ModP} (h : ModRoom m) : ∀ x ∈ m.funcs, Labs x.code := fun x hx y hy => by have := (h.funcs.2 x hx).2.2 y hy; omega
def CopyOf (w : World) (m : ModP) : Ending → World → Prop := CopyDone w m.start (m.types.map FT.cells) (m.memory.map MemP.cells) (m.globals.map GlobP.cells) (m.exports.map ExpP.cells) (m.data.map DataP.cells) m.funcs
/-- how a module's copy lies -/
def OwnMod (w : World) (B : Nat) (t f me g e d : Value) (m : ModP) : Prop := CopyAt w B t f me g e d (m.types.map FT.cells) (m.memory.map MemP.cells) (m.globals.map GlobP.cells) (m.exports.map ExpP.cells) (m.data.map DataP.cells) m.funcs
theorem listed_func {B : Nat} {w : World} {v : Value} {l : List FuncP} (h : FuncsAt w v l) (hroom : l.length ≤ 1000000000) : ∃ rf, rf.length = l.length ∧ Listed 34 32 3 B w v rf ∧ ∀ (i : Nat) r x, rf[i]? = some r → l[i]? = some x → isFunc w r x := by
  obtain ⟨la, c, rows, rfl, hrow, hlen, hx, hsz⟩ := listOf h
  refine ⟨rows, hlen, fun W hW hB => ?_, hx⟩
  refine (list_func la c rows W (hrow.later hW) (fun u hu => ?_) (by omega)).mono ?_
  · obtain ⟨r, hr, hu⟩ := List.mem_flatten.1 hu
    obtain ⟨i, hi⟩ := List.getElem?_of_mem hr
    have hlt := (List.getElem?_eq_some_iff.1 hi).1
    obtain ⟨cv, rfl, hc, _⟩ := hx i r _ hi (List.getElem?_eq_getElem (by omega))
    obtain ⟨a, c', hcv, _⟩ := ListAt.form hc
    subst hcv
    simp at hu
    rcases hu with rfl | rfl | rfl <;> rfl
  · rintro e w' ⟨⟨v', rfl, ho⟩, hb⟩
    obtain ⟨a', c', rfl⟩ := own_form ho
    exact ⟨⟨a', c', rfl, ho, hsz⟩, hb⟩
theorem copy_mod {t f me g e d : Value} {st : Int} {w : World} {m : ModP} (h : ModAt w t f me g e st d m) (hr : ModRoom m) : Calls Tryz.prog 14 #[modV t f me g e st d] w (CopyOf w m) := by
  obtain ⟨rf, h1, h2, h3⟩ := listed_func (B := w.heap.size) h.funcs hr.funcs.1
  have hs := h.start
  subst hs
  exact copy_any t f me g e m.start d w _ rf _ _ _ _ (listed_ft h.types hr.types.1) h2 (listed_mem h.memory hr.memory) (listed_glob h.globals hr.globals) (listed_exp h.exports hr.exports.1) (listed_data h.data hr.data.1) m.funcs h1 h3 (by rw [h1]; exact hr.funcs.1) (fun x hx y hy => (hr.funcs.2 x hx).2.2 y hy)
theorem own_list {α : Type} {w : World} {B : Nat} {e : TypeId} {size : Nat} {v : Value} {l : List α} {c : α → List Value} {R : World → List Value → α → Prop} (h : OwnAt w B e size v (l.map c)) (hs : 0 < size) (hl : l.length ≤ 1000000000) (hR : ∀ x ∈ l, R w (c x) x) : ListAt size R w v l := by
  refine ⟨l.map c, h.row hs (by rw [List.length_map]; omega), by rw [List.length_map], fun i r x hr hx => ?_⟩
  rw [List.getElem?_map, hx] at hr
  obtain rfl := Option.some.inj hr
  exact hR x (List.mem_of_getElem? hx)
theorem OwnMod.mod {w : World} {B : Nat} {t f me g e d : Value} {m : ModP} (h : OwnMod w B t f me g e d m) (hr : ModRoom m) : ModAt w t f me g e m.start d m := by
  refine ⟨own_list h.types (by omega) hr.types.1 (fun x hx => ⟨rfl, hr.types.2 x hx⟩), ?_, own_list h.memory (by omega) hr.memory (fun x hx => rfl), own_list h.globals (by omega) hr.globals (fun x hx => rfl), own_list h.exports (by omega) hr.exports.1 (fun x hx => ⟨rfl, hr.exports.2 x hx⟩), rfl, own_list h.data (by omega) hr.data.1 (fun x hx => ⟨rfl, hr.data.2 x hx⟩)⟩
  obtain ⟨rows, q1, q2, q3⟩ := h.funcs
  refine ⟨rows, q1.row (by omega) (by have := hr.funcs.1; omega), q2, fun i r x hri hx => ?_⟩
  obtain ⟨cv, h1, h2⟩ := q3 i r x hri hx
  have h3 := hr.funcs.2 x (List.mem_of_getElem? hx)
  exact ⟨cv, h1, h2.at (by omega), h3.1, h3.2.1⟩
theorem OwnMod.later {w w' : World} {B : Nat} {t f me g e d : Value} {m : ModP} (h : OwnMod w B t f me g e d m) (hb : Below w.heap.size w w') : OwnMod w' B t f me g e d m := by
  refine ⟨h.types.later hb, ?_, h.memory.later hb, h.globals.later hb, h.exports.later hb, h.data.later hb⟩
  obtain ⟨rows, q1, q2, q3⟩ := h.funcs
  exact ⟨rows, q1.later hb, q2, fun i r x hri hx => (q3 i r x hri hx).keeps (Keeps.of_below (F := fun _ => False) hb) (fun j hj => hj.elim)⟩
/-- what lies from a base on is as it was if only blocks below it have turned -/
theorem OwnAt.above {w w' : World} {B : Nat} {e : TypeId} {size : Nat} {v : Value} {rows : List (List Value)} (h : OwnAt w B e size v rows) {F : Nat → Prop} (k : Keeps F w w') (hF : ∀ j, F j → j < B) : OwnAt w' B e size v rows :=
  ⟨ownsRow_of h.1 (fun j hj => k.block j (h.1.lt j hj).2 (fun hf => by have h1 := hF j hf; have h2 := (h.1.lt j hj).1; omega)), h.2⟩
theorem CodeOwn.above {w w' : World} {B : Nat} {v : Value} {code : List InsL} (h : CodeOwn w B v code) {F : Nat → Prop} (k : Keeps F w w') (hF : ∀ j, F j → j < B) : CodeOwn w' B v code := by
  obtain ⟨rows, h1, h2, h3⟩ := h
  refine ⟨rows, h1.above k hF, h2, fun i r x hr hx => ?_⟩
  obtain ⟨lv, e1, e2, e3⟩ := h3 i r x hr hx
  exact ⟨lv, e1, OwnAt.above e2 k hF, e3⟩
theorem OwnMod.above {w w' : World} {B : Nat} {t f me g e d : Value} {m : ModP} (h : OwnMod w B t f me g e d m) {F : Nat → Prop} (k : Keeps F w w') (hF : ∀ j, F j → j < B) : OwnMod w' B t f me g e d m := by
  refine ⟨h.types.above k hF, ?_, h.memory.above k hF, h.globals.above k hF, h.exports.above k hF, h.data.above k hF⟩
  obtain ⟨rows, q1, q2, q3⟩ := h.funcs
  refine ⟨rows, q1.above k hF, q2, fun i r x hri hx => ?_⟩
  obtain ⟨cv, e1, e2⟩ := q3 i r x hri hx
  exact ⟨cv, e1, e2.above k hF⟩
end Go.Proofs.YtmbgemcddjailaaGreatDoor.Mod
