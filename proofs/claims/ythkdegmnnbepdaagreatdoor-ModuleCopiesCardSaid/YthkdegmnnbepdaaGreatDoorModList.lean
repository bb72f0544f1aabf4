/-
  What package module's list answers: a new row of the same cells. No condition but that the row has room.
-/
import Derived.Test.YthkdegmnnbepdaaGreatDoorModMem
import Derived.Laws.MakeOwn
namespace Go.Proofs.YthkdegmnnbepdaaGreatDoor.Mod
open Go.RowKit Go.Maps Go.Proofs.YthkdegmnnbepdaaGreatDoor.Op
set_option linter.unusedVariables false
theorem flat_at {sz : Nat} (hs : 0 < sz) : ∀ (rows : List (List Value)) (j : Nat), (∀ r ∈ rows, r.length = sz) → rows.flatten[j]? = (rows[j / sz]?).bind fun r => r[j % sz]?
  | [], j, _ => by simp
  | r :: rows, j, h => by
    have hr : r.length = sz := h r (by simp)
    rw [List.flatten_cons]
    by_cases hj : j < sz
    · rw [List.getElem?_append_left (by omega), Nat.div_eq_of_lt hj, Nat.mod_eq_of_lt hj]
      simp
    · rw [List.getElem?_append_right (by omega), flat_at hs rows _ (fun x hx => h x (List.mem_cons_of_mem _ hx)), hr]
      rw [show j / sz = (j - sz) / sz + 1 from Nat.div_eq_sub_div hs (by omega), show j % sz = (j - sz) % sz by rw [Nat.mod_eq_sub_mod (by omega)]]
      simp
theorem flat_len {sz : Nat} : ∀ (rows : List (List Value)), (∀ r ∈ rows, r.length = sz) → rows.flatten.length = rows.length * sz
  | [], _ => by simp
  | r :: rows, h => by
    rw [List.flatten_cons, List.length_append, flat_len rows (fun x hx => h x (List.mem_cons_of_mem _ hx)), h r (by simp), List.length_cons, Nat.add_mul]
    omega
theorem row_news {w : World} {sz : Nat} (hs : 0 < sz) {ad : Addr} {n c : Nat} {rows : List (List Value)} (h : RowAt w sz (.slice (some ad) n c) rows) : ∀ (j : Nat) u, rows.flatten[j]? = some u → w.cell? (ad.add j) = some u := by
  obtain ⟨la, c', hv, _, hr⟩ := h
  simp only [Value.slice.injEq] at hv
  obtain ⟨rfl, _, _⟩ := hv
  intro j u hj
  have hlen : ∀ r ∈ rows, r.length = sz := fun r hx => by
    obtain ⟨i, hi⟩ := List.getElem?_of_mem hx
    exact (hr i r hi).1
  rw [flat_at hs rows j hlen] at hj
  obtain ⟨r, hri, hru⟩ := Option.bind_eq_some_iff.1 hj
  obtain ⟨_, b', o', he, _, hc⟩ := hr _ r hri
  obtain rfl := Option.some.inj he
  have := hc _ u hru
  rw [Addr.add_lit]
  rw [show o' + j / sz * sz + j % sz = o' + j by have := Nat.div_add_mod' j sz; omega] at this
  exact this
theorem linfo_ft : (Tryz.prog.info? 68).map (fun i => (i.zero, i.size, i.bytes)) = some (some (.agg #[.string ⟨#[]⟩, .string ⟨#[]⟩]), 2, 32) := by kernel_rfl
set_option maxRecDepth 100000 in
set_option maxHeartbeats 1000000 in
theorem list_ft (la : Option Addr) (c : Nat) (rows : List (List Value)) (w : World) (h : RowAt w 2 (.slice la rows.length c) rows) (hone : ∀ u ∈ rows.flatten, u.oneCell' = true) (hroom : rows.length * 32 ≤ 140737488355328) :
    Calls Tryz.prog 63 #[.slice la rows.length c] w fun e w' => (∃ v, e = .returned v ∧ w'.ownsRow w.heap.size 68 2 v rows.length rows.flatten) ∧ Below w.heap.size w w' := by
  obtain ⟨i0, hi, hz0, hz1, hz2⟩ := info_of linfo_ft
  have hlen : ∀ r ∈ rows, r.length = 2 := fun r hx => by
    obtain ⟨_, _, _, _, hr⟩ := h
    obtain ⟨i, hi⟩ := List.getElem?_of_mem hx
    exact (hr i r hi).1
  obtain ⟨n, hn⟩ : ∃ n, rows.length = n := ⟨_, rfl⟩
  have HFL := Lib.hid (flat_len rows hlen)
  have HN := Lib.hid hn
  obtain ⟨MK, hMK⟩ : ∃ MK, madeCells (.agg #[.string ⟨#[]⟩, .string ⟨#[]⟩] : Value).cells (n * 2) = MK := ⟨_, rfl⟩
  have hms : MK.size = n * 2 := by rw [← hMK, size_madeCells]
  have hmk : ∀ W, (Instr.makeSlice 22 (.int .i64 0) (.int .i64 (n : Int))).run Tryz.prog W = .ok (.slice (some ⟨W.heap.size, 0, none⟩) 0 n) (W.alloc (.cells MK 68)) := fun W => by
    have := run_make (P := Tryz.prog) W 22 68 i0 (.agg #[.string ⟨#[]⟩, .string ⟨#[]⟩]) Tryz.underlying22 hi hz0 .i64 .i64 0 (n : Int) (by omega) (by omega) (by rw [hz2]; omega) (by omega)
    rw [this, hz1, show ((n : Nat) : Int).toNat = n by omega, hMK]
    rfl
  have HM := Lib.hid (show (w.alloc (.cells MK 68)).ownsRow w.heap.size 68 2 (.slice (some ⟨w.heap.size, 0, none⟩) 0 n) 0 [] from World.ownsRow_made w MK n (Nat.le_refl _) (by unfold maxLen; omega) hms)
  have HB := Lib.hid ((Below.refl w.heap.size w).alloc (Nat.le_refl _) (.cells MK 68))
  have H := Lib.hid (h.later HB.out)
  have HONE := Lib.hid hone
  rw [hn] at h hroom ⊢
  have HSZ := Lib.hid (show (w.alloc (.cells MK 68)).heap.size = w.heap.size + 1 by simp)
  clear hMK hms hone hn hlen h
  have HL := Lib.hid (show 0 + n ≤ maxLen by unfold maxLen; omega)
  have HY := Lib.hid (show (0 + n) * 32 ≤ 140737488355328 by omega)
  have HZ := Lib.hid (show w.heap.size ≤ (w.alloc (.cells MK 68)).heap.size by rw [HSZ.out]; omega)
  rcases la with _ | ad
  · have hn0 : n = 0 := by
      rcases Nat.eq_zero_or_pos n with h0 | h0
      · exact h0
      · obtain ⟨la', c', hv, _, hr⟩ := H.out
        simp only [Value.slice.injEq] at hv
        obtain ⟨_, _, _, he, _⟩ := hr 0 _ (List.getElem?_eq_getElem (by rw [HN.out]; exact h0))
        rw [← hv.1] at he
        cases he
    subst hn0
    have hfl : rows.flatten = [] := List.eq_nil_of_length_eq_zero (by rw [HFL.out, HN.out, Nat.zero_mul])
    have hrn : (Builtin.append_ #[22, 22] 22 #[.slice (some ⟨w.heap.size, 0, none⟩) 0 0, .slice none 0 c]).run Tryz.prog (w.alloc (.cells MK 68)) = .ok (.slice (some ⟨w.heap.size, 0, none⟩) 0 0) (w.alloc (.cells MK 68)) := by
      simp [Builtin.append_, run_underlying Tryz.underlying22, sizeOf, typeInfo, hi, Builtin.lenOf, Builtin.firstCells, storeCells]
    rw [hfl]
    have hmk0 : ∀ W, (Instr.makeSlice 22 (.int .i64 0) (.int .i64 0)).run Tryz.prog W = .ok (.slice (some ⟨W.heap.size, 0, none⟩) 0 0) (W.alloc (.cells MK 68)) := hmk
    clear hmk hfl
    go_enter Tryz.func63, Tryz.ntmps63
    go_wp2_with fail
    go_ret
    exact ⟨⟨_, rfl, HM.out⟩, HB.out⟩
  · have HNEW := Lib.hid (row_news (by decide) H.out)
    go_enter Tryz.func63, Tryz.ntmps63
    go_wp2_with (at_builtin; refine wpList_append_own _ rfl _ _ 22 rfl w.heap.size 68 i0 (.agg #[.string ⟨#[]⟩, .string ⟨#[]⟩]) 2 32 Tryz.underlying22 hi hz0 hz1 hz2 rfl (by decide) _ 0 [] rfl HM.out ad n c rows.flatten rfl (by rw [HFL.out, HN.out]) HNEW.out HONE.out HL.out HY.out HZ.out ?_)
    intro v' w1 hown hgrow _
    have HB1 := Lib.hid (HB.out.grown hgrow (by rw [HSZ.out]; omega) (fun k hk => (HM.out.lt k hk).1))
    have HO := Lib.hid (show w1.ownsRow w.heap.size 68 2 v' n rows.flatten by simpa using hown)
    clear hown hgrow
    go_wp2_with fail
    go_ret
    exact ⟨⟨_, rfl, HO.out⟩, HB1.out⟩
theorem linfo_func : (Tryz.prog.info? 33).map (fun i => (i.zero, i.size, i.bytes)) = some (some (.agg #[.int .i64 0, .string ⟨#[]⟩, .slice none 0 0]), 3, 48) := by kernel_rfl
set_option maxRecDepth 100000 in
set_option maxHeartbeats 1000000 in
theorem list_func (la : Option Addr) (c : Nat) (rows : List (List Value)) (w : World) (h : RowAt w 3 (.slice la rows.length c) rows) (hone : ∀ u ∈ rows.flatten, u.oneCell' = true) (hroom : rows.length * 48 ≤ 140737488355328) :
    Calls Tryz.prog 64 #[.slice la rows.length c] w fun e w' => (∃ v, e = .returned v ∧ w'.ownsRow w.heap.size 33 3 v rows.length rows.flatten) ∧ Below w.heap.size w w' := by
  obtain ⟨i0, hi, hz0, hz1, hz2⟩ := info_of linfo_func
  have hlen : ∀ r ∈ rows, r.length = 3 := fun r hx => by
    obtain ⟨_, _, _, _, hr⟩ := h
    obtain ⟨i, hi⟩ := List.getElem?_of_mem hx
    exact (hr i r hi).1
  obtain ⟨n, hn⟩ : ∃ n, rows.length = n := ⟨_, rfl⟩
  have HFL := Lib.hid (flat_len rows hlen)
  have HN := Lib.hid hn
  obtain ⟨MK, hMK⟩ : ∃ MK, madeCells (.agg #[.int .i64 0, .string ⟨#[]⟩, .slice none 0 0] : Value).cells (n * 3) = MK := ⟨_, rfl⟩
  have hms : MK.size = n * 3 := by rw [← hMK, size_madeCells]
  have hmk : ∀ W, (Instr.makeSlice 23 (.int .i64 0) (.int .i64 (n : Int))).run Tryz.prog W = .ok (.slice (some ⟨W.heap.size, 0, none⟩) 0 n) (W.alloc (.cells MK 33)) := fun W => by
    have := run_make (P := Tryz.prog) W 23 33 i0 (.agg #[.int .i64 0, .string ⟨#[]⟩, .slice none 0 0]) Tryz.underlying23 hi hz0 .i64 .i64 0 (n : Int) (by omega) (by omega) (by rw [hz2]; omega) (by omega)
    rw [this, hz1, show ((n : Nat) : Int).toNat = n by omega, hMK]
    rfl
  have HM := Lib.hid (show (w.alloc (.cells MK 33)).ownsRow w.heap.size 33 3 (.slice (some ⟨w.heap.size, 0, none⟩) 0 n) 0 [] from World.ownsRow_made w MK n (Nat.le_refl _) (by unfold maxLen; omega) hms)
  have HB := Lib.hid ((Below.refl w.heap.size w).alloc (Nat.le_refl _) (.cells MK 33))
  have H := Lib.hid (h.later HB.out)
  have HONE := Lib.hid hone
  rw [hn] at h hroom ⊢
  have HSZ := Lib.hid (show (w.alloc (.cells MK 33)).heap.size = w.heap.size + 1 by simp)
  clear hMK hms hone hn hlen h
  have HL := Lib.hid (show 0 + n ≤ maxLen by unfold maxLen; omega)
  have HY := Lib.hid (show (0 + n) * 48 ≤ 140737488355328 by omega)
  have HZ := Lib.hid (show w.heap.size ≤ (w.alloc (.cells MK 33)).heap.size by rw [HSZ.out]; omega)
  rcases la with _ | ad
  · have hn0 : n = 0 := by
      rcases Nat.eq_zero_or_pos n with h0 | h0
      · exact h0
      · obtain ⟨la', c', hv, _, hr⟩ := H.out
        simp only [Value.slice.injEq] at hv
        obtain ⟨_, _, _, he, _⟩ := hr 0 _ (List.getElem?_eq_getElem (by rw [HN.out]; exact h0))
        rw [← hv.1] at he
        cases he
    subst hn0
    have hfl : rows.flatten = [] := List.eq_nil_of_length_eq_zero (by rw [HFL.out, HN.out, Nat.zero_mul])
    have hrn : (Builtin.append_ #[23, 23] 23 #[.slice (some ⟨w.heap.size, 0, none⟩) 0 0, .slice none 0 c]).run Tryz.prog (w.alloc (.cells MK 33)) = .ok (.slice (some ⟨w.heap.size, 0, none⟩) 0 0) (w.alloc (.cells MK 33)) := by
      simp [Builtin.append_, run_underlying Tryz.underlying23, sizeOf, typeInfo, hi, Builtin.lenOf, Builtin.firstCells, storeCells]
    rw [hfl]
    have hmk0 : ∀ W, (Instr.makeSlice 23 (.int .i64 0) (.int .i64 0)).run Tryz.prog W = .ok (.slice (some ⟨W.heap.size, 0, none⟩) 0 0) (W.alloc (.cells MK 33)) := hmk
    clear hmk hfl
    go_enter Tryz.func64, Tryz.ntmps64
    go_wp2_with fail
    go_ret
    exact ⟨⟨_, rfl, HM.out⟩, HB.out⟩
  · have HNEW := Lib.hid (row_news (by decide) H.out)
    go_enter Tryz.func64, Tryz.ntmps64
    go_wp2_with (at_builtin; refine wpList_append_own _ rfl _ _ 23 rfl w.heap.size 33 i0 (.agg #[.int .i64 0, .string ⟨#[]⟩, .slice none 0 0]) 3 48 Tryz.underlying23 hi hz0 hz1 hz2 rfl (by decide) _ 0 [] rfl HM.out ad n c rows.flatten rfl (by rw [HFL.out, HN.out]) HNEW.out HONE.out HL.out HY.out HZ.out ?_)
    intro v' w1 hown hgrow _
    have HB1 := Lib.hid (HB.out.grown hgrow (by rw [HSZ.out]; omega) (fun k hk => (HM.out.lt k hk).1))
    have HO := Lib.hid (show w1.ownsRow w.heap.size 33 3 v' n rows.flatten by simpa using hown)
    clear hown hgrow
    go_wp2_with fail
    go_ret
    exact ⟨⟨_, rfl, HO.out⟩, HB1.out⟩
theorem linfo_mem : (Tryz.prog.info? 62).map (fun i => (i.zero, i.size, i.bytes)) = some (some (.agg #[.int .i64 0, .int .i64 0]), 2, 16) := by kernel_rfl
set_option maxRecDepth 100000 in
set_option maxHeartbeats 1000000 in
theorem list_mem (la : Option Addr) (c : Nat) (rows : List (List Value)) (w : World) (h : RowAt w 2 (.slice la rows.length c) rows) (hone : ∀ u ∈ rows.flatten, u.oneCell' = true) (hroom : rows.length * 16 ≤ 140737488355328) :
    Calls Tryz.prog 65 #[.slice la rows.length c] w fun e w' => (∃ v, e = .returned v ∧ w'.ownsRow w.heap.size 62 2 v rows.length rows.flatten) ∧ Below w.heap.size w w' := by
  obtain ⟨i0, hi, hz0, hz1, hz2⟩ := info_of linfo_mem
  have hlen : ∀ r ∈ rows, r.length = 2 := fun r hx => by
    obtain ⟨_, _, _, _, hr⟩ := h
    obtain ⟨i, hi⟩ := List.getElem?_of_mem hx
    exact (hr i r hi).1
  obtain ⟨n, hn⟩ : ∃ n, rows.length = n := ⟨_, rfl⟩
  have HFL := Lib.hid (flat_len rows hlen)
  have HN := Lib.hid hn
  obtain ⟨MK, hMK⟩ : ∃ MK, madeCells (.agg #[.int .i64 0, .int .i64 0] : Value).cells (n * 2) = MK := ⟨_, rfl⟩
  have hms : MK.size = n * 2 := by rw [← hMK, size_madeCells]
  have hmk : ∀ W, (Instr.makeSlice 24 (.int .i64 0) (.int .i64 (n : Int))).run Tryz.prog W = .ok (.slice (some ⟨W.heap.size, 0, none⟩) 0 n) (W.alloc (.cells MK 62)) := fun W => by
    have := run_make (P := Tryz.prog) W 24 62 i0 (.agg #[.int .i64 0, .int .i64 0]) Tryz.underlying24 hi hz0 .i64 .i64 0 (n : Int) (by omega) (by omega) (by rw [hz2]; omega) (by omega)
    rw [this, hz1, show ((n : Nat) : Int).toNat = n by omega, hMK]
    rfl
  have HM := Lib.hid (show (w.alloc (.cells MK 62)).ownsRow w.heap.size 62 2 (.slice (some ⟨w.heap.size, 0, none⟩) 0 n) 0 [] from World.ownsRow_made w MK n (Nat.le_refl _) (by unfold maxLen; omega) hms)
  have HB := Lib.hid ((Below.refl w.heap.size w).alloc (Nat.le_refl _) (.cells MK 62))
  have H := Lib.hid (h.later HB.out)
  have HONE := Lib.hid hone
  rw [hn] at h hroom ⊢
  have HSZ := Lib.hid (show (w.alloc (.cells MK 62)).heap.size = w.heap.size + 1 by simp)
  clear hMK hms hone hn hlen h
  have HL := Lib.hid (show 0 + n ≤ maxLen by unfold maxLen; omega)
  have HY := Lib.hid (show (0 + n) * 16 ≤ 140737488355328 by omega)
  have HZ := Lib.hid (show w.heap.size ≤ (w.alloc (.cells MK 62)).heap.size by rw [HSZ.out]; omega)
  rcases la with _ | ad
  · have hn0 : n = 0 := by
      rcases Nat.eq_zero_or_pos n with h0 | h0
      · exact h0
      · obtain ⟨la', c', hv, _, hr⟩ := H.out
        simp only [Value.slice.injEq] at hv
        obtain ⟨_, _, _, he, _⟩ := hr 0 _ (List.getElem?_eq_getElem (by rw [HN.out]; exact h0))
        rw [← hv.1] at he
        cases he
    subst hn0
    have hfl : rows.flatten = [] := List.eq_nil_of_length_eq_zero (by rw [HFL.out, HN.out, Nat.zero_mul])
    have hrn : (Builtin.append_ #[24, 24] 24 #[.slice (some ⟨w.heap.size, 0, none⟩) 0 0, .slice none 0 c]).run Tryz.prog (w.alloc (.cells MK 62)) = .ok (.slice (some ⟨w.heap.size, 0, none⟩) 0 0) (w.alloc (.cells MK 62)) := by
      simp [Builtin.append_, run_underlying Tryz.underlying24, sizeOf, typeInfo, hi, Builtin.lenOf, Builtin.firstCells, storeCells]
    rw [hfl]
    have hmk0 : ∀ W, (Instr.makeSlice 24 (.int .i64 0) (.int .i64 0)).run Tryz.prog W = .ok (.slice (some ⟨W.heap.size, 0, none⟩) 0 0) (W.alloc (.cells MK 62)) := hmk
    clear hmk hfl
    go_enter Tryz.func65, Tryz.ntmps65
    go_wp2_with fail
    go_ret
    exact ⟨⟨_, rfl, HM.out⟩, HB.out⟩
  · have HNEW := Lib.hid (row_news (by decide) H.out)
    go_enter Tryz.func65, Tryz.ntmps65
    go_wp2_with (at_builtin; refine wpList_append_own _ rfl _ _ 24 rfl w.heap.size 62 i0 (.agg #[.int .i64 0, .int .i64 0]) 2 16 Tryz.underlying24 hi hz0 hz1 hz2 rfl (by decide) _ 0 [] rfl HM.out ad n c rows.flatten rfl (by rw [HFL.out, HN.out]) HNEW.out HONE.out HL.out HY.out HZ.out ?_)
    intro v' w1 hown hgrow _
    have HB1 := Lib.hid (HB.out.grown hgrow (by rw [HSZ.out]; omega) (fun k hk => (HM.out.lt k hk).1))
    have HO := Lib.hid (show w1.ownsRow w.heap.size 62 2 v' n rows.flatten by simpa using hown)
    clear hown hgrow
    go_wp2_with fail
    go_ret
    exact ⟨⟨_, rfl, HO.out⟩, HB1.out⟩
theorem linfo_glob : (Tryz.prog.info? 60).map (fun i => (i.zero, i.size, i.bytes)) = some (some (.agg #[.int .i64 0, .bool false, .int .i64 0]), 3, 24) := by kernel_rfl
set_option maxRecDepth 100000 in
set_option maxHeartbeats 1000000 in
theorem list_glob (la : Option Addr) (c : Nat) (rows : List (List Value)) (w : World) (h : RowAt w 3 (.slice la rows.length c) rows) (hone : ∀ u ∈ rows.flatten, u.oneCell' = true) (hroom : rows.length * 24 ≤ 140737488355328) :
    Calls Tryz.prog 66 #[.slice la rows.length c] w fun e w' => (∃ v, e = .returned v ∧ w'.ownsRow w.heap.size 60 3 v rows.length rows.flatten) ∧ Below w.heap.size w w' := by
  obtain ⟨i0, hi, hz0, hz1, hz2⟩ := info_of linfo_glob
  have hlen : ∀ r ∈ rows, r.length = 3 := fun r hx => by
    obtain ⟨_, _, _, _, hr⟩ := h
    obtain ⟨i, hi⟩ := List.getElem?_of_mem hx
    exact (hr i r hi).1
  obtain ⟨n, hn⟩ : ∃ n, rows.length = n := ⟨_, rfl⟩
  have HFL := Lib.hid (flat_len rows hlen)
  have HN := Lib.hid hn
  obtain ⟨MK, hMK⟩ : ∃ MK, madeCells (.agg #[.int .i64 0, .bool false, .int .i64 0] : Value).cells (n * 3) = MK := ⟨_, rfl⟩
  have hms : MK.size = n * 3 := by rw [← hMK, size_madeCells]
  have hmk : ∀ W, (Instr.makeSlice 25 (.int .i64 0) (.int .i64 (n : Int))).run Tryz.prog W = .ok (.slice (some ⟨W.heap.size, 0, none⟩) 0 n) (W.alloc (.cells MK 60)) := fun W => by
    have := run_make (P := Tryz.prog) W 25 60 i0 (.agg #[.int .i64 0, .bool false, .int .i64 0]) Tryz.underlying25 hi hz0 .i64 .i64 0 (n : Int) (by omega) (by omega) (by rw [hz2]; omega) (by omega)
    rw [this, hz1, show ((n : Nat) : Int).toNat = n by omega, hMK]
    rfl
  have HM := Lib.hid (show (w.alloc (.cells MK 60)).ownsRow w.heap.size 60 3 (.slice (some ⟨w.heap.size, 0, none⟩) 0 n) 0 [] from World.ownsRow_made w MK n (Nat.le_refl _) (by unfold maxLen; omega) hms)
  have HB := Lib.hid ((Below.refl w.heap.size w).alloc (Nat.le_refl _) (.cells MK 60))
  have H := Lib.hid (h.later HB.out)
  have HONE := Lib.hid hone
  rw [hn] at h hroom ⊢
  have HSZ := Lib.hid (show (w.alloc (.cells MK 60)).heap.size = w.heap.size + 1 by simp)
  clear hMK hms hone hn hlen h
  have HL := Lib.hid (show 0 + n ≤ maxLen by unfold maxLen; omega)
  have HY := Lib.hid (show (0 + n) * 24 ≤ 140737488355328 by omega)
  have HZ := Lib.hid (show w.heap.size ≤ (w.alloc (.cells MK 60)).heap.size by rw [HSZ.out]; omega)
  rcases la with _ | ad
  · have hn0 : n = 0 := by
      rcases Nat.eq_zero_or_pos n with h0 | h0
      · exact h0
      · obtain ⟨la', c', hv, _, hr⟩ := H.out
        simp only [Value.slice.injEq] at hv
        obtain ⟨_, _, _, he, _⟩ := hr 0 _ (List.getElem?_eq_getElem (by rw [HN.out]; exact h0))
        rw [← hv.1] at he
        cases he
    subst hn0
    have hfl : rows.flatten = [] := List.eq_nil_of_length_eq_zero (by rw [HFL.out, HN.out, Nat.zero_mul])
    have hrn : (Builtin.append_ #[25, 25] 25 #[.slice (some ⟨w.heap.size, 0, none⟩) 0 0, .slice none 0 c]).run Tryz.prog (w.alloc (.cells MK 60)) = .ok (.slice (some ⟨w.heap.size, 0, none⟩) 0 0) (w.alloc (.cells MK 60)) := by
      simp [Builtin.append_, run_underlying Tryz.underlying25, sizeOf, typeInfo, hi, Builtin.lenOf, Builtin.firstCells, storeCells]
    rw [hfl]
    have hmk0 : ∀ W, (Instr.makeSlice 25 (.int .i64 0) (.int .i64 0)).run Tryz.prog W = .ok (.slice (some ⟨W.heap.size, 0, none⟩) 0 0) (W.alloc (.cells MK 60)) := hmk
    clear hmk hfl
    go_enter Tryz.func66, Tryz.ntmps66
    go_wp2_with fail
    go_ret
    exact ⟨⟨_, rfl, HM.out⟩, HB.out⟩
  · have HNEW := Lib.hid (row_news (by decide) H.out)
    go_enter Tryz.func66, Tryz.ntmps66
    go_wp2_with (at_builtin; refine wpList_append_own _ rfl _ _ 25 rfl w.heap.size 60 i0 (.agg #[.int .i64 0, .bool false, .int .i64 0]) 3 24 Tryz.underlying25 hi hz0 hz1 hz2 rfl (by decide) _ 0 [] rfl HM.out ad n c rows.flatten rfl (by rw [HFL.out, HN.out]) HNEW.out HONE.out HL.out HY.out HZ.out ?_)
    intro v' w1 hown hgrow _
    have HB1 := Lib.hid (HB.out.grown hgrow (by rw [HSZ.out]; omega) (fun k hk => (HM.out.lt k hk).1))
    have HO := Lib.hid (show w1.ownsRow w.heap.size 60 3 v' n rows.flatten by simpa using hown)
    clear hown hgrow
    go_wp2_with fail
    go_ret
    exact ⟨⟨_, rfl, HO.out⟩, HB1.out⟩
theorem linfo_exp : (Tryz.prog.info? 58).map (fun i => (i.zero, i.size, i.bytes)) = some (some (.agg #[.string ⟨#[]⟩, .int .i64 0, .int .i64 0]), 3, 32) := by kernel_rfl
set_option maxRecDepth 100000 in
set_option maxHeartbeats 1000000 in
theorem list_exp (la : Option Addr) (c : Nat) (rows : List (List Value)) (w : World) (h : RowAt w 3 (.slice la rows.length c) rows) (hone : ∀ u ∈ rows.flatten, u.oneCell' = true) (hroom : rows.length * 32 ≤ 140737488355328) :
    Calls Tryz.prog 67 #[.slice la rows.length c] w fun e w' => (∃ v, e = .returned v ∧ w'.ownsRow w.heap.size 58 3 v rows.length rows.flatten) ∧ Below w.heap.size w w' := by
  obtain ⟨i0, hi, hz0, hz1, hz2⟩ := info_of linfo_exp
  have hlen : ∀ r ∈ rows, r.length = 3 := fun r hx => by
    obtain ⟨_, _, _, _, hr⟩ := h
    obtain ⟨i, hi⟩ := List.getElem?_of_mem hx
    exact (hr i r hi).1
  obtain ⟨n, hn⟩ : ∃ n, rows.length = n := ⟨_, rfl⟩
  have HFL := Lib.hid (flat_len rows hlen)
  have HN := Lib.hid hn
  obtain ⟨MK, hMK⟩ : ∃ MK, madeCells (.agg #[.string ⟨#[]⟩, .int .i64 0, .int .i64 0] : Value).cells (n * 3) = MK := ⟨_, rfl⟩
  have hms : MK.size = n * 3 := by rw [← hMK, size_madeCells]
  have hmk : ∀ W, (Instr.makeSlice 26 (.int .i64 0) (.int .i64 (n : Int))).run Tryz.prog W = .ok (.slice (some ⟨W.heap.size, 0, none⟩) 0 n) (W.alloc (.cells MK 58)) := fun W => by
    have := run_make (P := Tryz.prog) W 26 58 i0 (.agg #[.string ⟨#[]⟩, .int .i64 0, .int .i64 0]) Tryz.underlying26 hi hz0 .i64 .i64 0 (n : Int) (by omega) (by omega) (by rw [hz2]; omega) (by omega)
    rw [this, hz1, show ((n : Nat) : Int).toNat = n by omega, hMK]
    rfl
  have HM := Lib.hid (show (w.alloc (.cells MK 58)).ownsRow w.heap.size 58 3 (.slice (some ⟨w.heap.size, 0, none⟩) 0 n) 0 [] from World.ownsRow_made w MK n (Nat.le_refl _) (by unfold maxLen; omega) hms)
  have HB := Lib.hid ((Below.refl w.heap.size w).alloc (Nat.le_refl _) (.cells MK 58))
  have H := Lib.hid (h.later HB.out)
  have HONE := Lib.hid hone
  rw [hn] at h hroom ⊢
  have HSZ := Lib.hid (show (w.alloc (.cells MK 58)).heap.size = w.heap.size + 1 by simp)
  clear hMK hms hone hn hlen h
  have HL := Lib.hid (show 0 + n ≤ maxLen by unfold maxLen; omega)
  have HY := Lib.hid (show (0 + n) * 32 ≤ 140737488355328 by omega)
  have HZ := Lib.hid (show w.heap.size ≤ (w.alloc (.cells MK 58)).heap.size by rw [HSZ.out]; omega)
  rcases la with _ | ad
  · have hn0 : n = 0 := by
      rcases Nat.eq_zero_or_pos n with h0 | h0
      · exact h0
      · obtain ⟨la', c', hv, _, hr⟩ := H.out
        simp only [Value.slice.injEq] at hv
        obtain ⟨_, _, _, he, _⟩ := hr 0 _ (List.getElem?_eq_getElem (by rw [HN.out]; exact h0))
        rw [← hv.1] at he
        cases he
    subst hn0
    have hfl : rows.flatten = [] := List.eq_nil_of_length_eq_zero (by rw [HFL.out, HN.out, Nat.zero_mul])
    have hrn : (Builtin.append_ #[26, 26] 26 #[.slice (some ⟨w.heap.size, 0, none⟩) 0 0, .slice none 0 c]).run Tryz.prog (w.alloc (.cells MK 58)) = .ok (.slice (some ⟨w.heap.size, 0, none⟩) 0 0) (w.alloc (.cells MK 58)) := by
      simp [Builtin.append_, run_underlying Tryz.underlying26, sizeOf, typeInfo, hi, Builtin.lenOf, Builtin.firstCells, storeCells]
    rw [hfl]
    have hmk0 : ∀ W, (Instr.makeSlice 26 (.int .i64 0) (.int .i64 0)).run Tryz.prog W = .ok (.slice (some ⟨W.heap.size, 0, none⟩) 0 0) (W.alloc (.cells MK 58)) := hmk
    clear hmk hfl
    go_enter Tryz.func67, Tryz.ntmps67
    go_wp2_with fail
    go_ret
    exact ⟨⟨_, rfl, HM.out⟩, HB.out⟩
  · have HNEW := Lib.hid (row_news (by decide) H.out)
    go_enter Tryz.func67, Tryz.ntmps67
    go_wp2_with (at_builtin; refine wpList_append_own _ rfl _ _ 26 rfl w.heap.size 58 i0 (.agg #[.string ⟨#[]⟩, .int .i64 0, .int .i64 0]) 3 32 Tryz.underlying26 hi hz0 hz1 hz2 rfl (by decide) _ 0 [] rfl HM.out ad n c rows.flatten rfl (by rw [HFL.out, HN.out]) HNEW.out HONE.out HL.out HY.out HZ.out ?_)
    intro v' w1 hown hgrow _
    have HB1 := Lib.hid (HB.out.grown hgrow (by rw [HSZ.out]; omega) (fun k hk => (HM.out.lt k hk).1))
    have HO := Lib.hid (show w1.ownsRow w.heap.size 58 3 v' n rows.flatten by simpa using hown)
    clear hown hgrow
    go_wp2_with fail
    go_ret
    exact ⟨⟨_, rfl, HO.out⟩, HB1.out⟩
theorem linfo_data : (Tryz.prog.info? 49).map (fun i => (i.zero, i.size, i.bytes)) = some (some (.agg #[.int .i64 0, .string ⟨#[]⟩]), 2, 24) := by kernel_rfl
set_option maxRecDepth 100000 in
set_option maxHeartbeats 1000000 in
theorem list_data (la : Option Addr) (c : Nat) (rows : List (List Value)) (w : World) (h : RowAt w 2 (.slice la rows.length c) rows) (hone : ∀ u ∈ rows.flatten, u.oneCell' = true) (hroom : rows.length * 24 ≤ 140737488355328) :
    Calls Tryz.prog 68 #[.slice la rows.length c] w fun e w' => (∃ v, e = .returned v ∧ w'.ownsRow w.heap.size 49 2 v rows.length rows.flatten) ∧ Below w.heap.size w w' := by
  obtain ⟨i0, hi, hz0, hz1, hz2⟩ := info_of linfo_data
  have hlen : ∀ r ∈ rows, r.length = 2 := fun r hx => by
    obtain ⟨_, _, _, _, hr⟩ := h
    obtain ⟨i, hi⟩ := List.getElem?_of_mem hx
    exact (hr i r hi).1
  obtain ⟨n, hn⟩ : ∃ n, rows.length = n := ⟨_, rfl⟩
  have HFL := Lib.hid (flat_len rows hlen)
  have HN := Lib.hid hn
  obtain ⟨MK, hMK⟩ : ∃ MK, madeCells (.agg #[.int .i64 0, .string ⟨#[]⟩] : Value).cells (n * 2) = MK := ⟨_, rfl⟩
  have hms : MK.size = n * 2 := by rw [← hMK, size_madeCells]
  have hmk : ∀ W, (Instr.makeSlice 27 (.int .i64 0) (.int .i64 (n : Int))).run Tryz.prog W = .ok (.slice (some ⟨W.heap.size, 0, none⟩) 0 n) (W.alloc (.cells MK 49)) := fun W => by
    have := run_make (P := Tryz.prog) W 27 49 i0 (.agg #[.int .i64 0, .string ⟨#[]⟩]) Tryz.underlying27 hi hz0 .i64 .i64 0 (n : Int) (by omega) (by omega) (by rw [hz2]; omega) (by omega)
    rw [this, hz1, show ((n : Nat) : Int).toNat = n by omega, hMK]
    rfl
  have HM := Lib.hid (show (w.alloc (.cells MK 49)).ownsRow w.heap.size 49 2 (.slice (some ⟨w.heap.size, 0, none⟩) 0 n) 0 [] from World.ownsRow_made w MK n (Nat.le_refl _) (by unfold maxLen; omega) hms)
  have HB := Lib.hid ((Below.refl w.heap.size w).alloc (Nat.le_refl _) (.cells MK 49))
  have H := Lib.hid (h.later HB.out)
  have HONE := Lib.hid hone
  rw [hn] at h hroom ⊢
  have HSZ := Lib.hid (show (w.alloc (.cells MK 49)).heap.size = w.heap.size + 1 by simp)
  clear hMK hms hone hn hlen h
  have HL := Lib.hid (show 0 + n ≤ maxLen by unfold maxLen; omega)
  have HY := Lib.hid (show (0 + n) * 24 ≤ 140737488355328 by omega)
  have HZ := Lib.hid (show w.heap.size ≤ (w.alloc (.cells MK 49)).heap.size by rw [HSZ.out]; omega)
  rcases la with _ | ad
  · have hn0 : n = 0 := by
      rcases Nat.eq_zero_or_pos n with h0 | h0
      · exact h0
      · obtain ⟨la', c', hv, _, hr⟩ := H.out
        simp only [Value.slice.injEq] at hv
        obtain ⟨_, _, _, he, _⟩ := hr 0 _ (List.getElem?_eq_getElem (by rw [HN.out]; exact h0))
        rw [← hv.1] at he
        cases he
    subst hn0
    have hfl : rows.flatten = [] := List.eq_nil_of_length_eq_zero (by rw [HFL.out, HN.out, Nat.zero_mul])
    have hrn : (Builtin.append_ #[27, 27] 27 #[.slice (some ⟨w.heap.size, 0, none⟩) 0 0, .slice none 0 c]).run Tryz.prog (w.alloc (.cells MK 49)) = .ok (.slice (some ⟨w.heap.size, 0, none⟩) 0 0) (w.alloc (.cells MK 49)) := by
      simp [Builtin.append_, run_underlying Tryz.underlying27, sizeOf, typeInfo, hi, Builtin.lenOf, Builtin.firstCells, storeCells]
    rw [hfl]
    have hmk0 : ∀ W, (Instr.makeSlice 27 (.int .i64 0) (.int .i64 0)).run Tryz.prog W = .ok (.slice (some ⟨W.heap.size, 0, none⟩) 0 0) (W.alloc (.cells MK 49)) := hmk
    clear hmk hfl
    go_enter Tryz.func68, Tryz.ntmps68
    go_wp2_with fail
    go_ret
    exact ⟨⟨_, rfl, HM.out⟩, HB.out⟩
  · have HNEW := Lib.hid (row_news (by decide) H.out)
    go_enter Tryz.func68, Tryz.ntmps68
    go_wp2_with (at_builtin; refine wpList_append_own _ rfl _ _ 27 rfl w.heap.size 49 i0 (.agg #[.int .i64 0, .string ⟨#[]⟩]) 2 24 Tryz.underlying27 hi hz0 hz1 hz2 rfl (by decide) _ 0 [] rfl HM.out ad n c rows.flatten rfl (by rw [HFL.out, HN.out]) HNEW.out HONE.out HL.out HY.out HZ.out ?_)
    intro v' w1 hown hgrow _
    have HB1 := Lib.hid (HB.out.grown hgrow (by rw [HSZ.out]; omega) (fun k hk => (HM.out.lt k hk).1))
    have HO := Lib.hid (show w1.ownsRow w.heap.size 49 2 v' n rows.flatten by simpa using hown)
    clear hown hgrow
    go_wp2_with fail
    go_ret
    exact ⟨⟨_, rfl, HO.out⟩, HB1.out⟩
theorem linfo_ins : (Tryz.prog.info? 40).map (fun i => (i.zero, i.size, i.bytes)) = some (some (.agg #[.int .i64 0, .int .i64 0, .int .i64 0, .slice none 0 0]), 4, 48) := by kernel_rfl
set_option maxRecDepth 100000 in
set_option maxHeartbeats 1000000 in
theorem list_ins (la : Option Addr) (c : Nat) (rows : List (List Value)) (w : World) (h : RowAt w 4 (.slice la rows.length c) rows) (hone : ∀ u ∈ rows.flatten, u.oneCell' = true) (hroom : rows.length * 48 ≤ 140737488355328) :
    Calls Tryz.prog 69 #[.slice la rows.length c] w fun e w' => (∃ v, e = .returned v ∧ w'.ownsRow w.heap.size 40 4 v rows.length rows.flatten) ∧ Below w.heap.size w w' := by
  obtain ⟨i0, hi, hz0, hz1, hz2⟩ := info_of linfo_ins
  have hlen : ∀ r ∈ rows, r.length = 4 := fun r hx => by
    obtain ⟨_, _, _, _, hr⟩ := h
    obtain ⟨i, hi⟩ := List.getElem?_of_mem hx
    exact (hr i r hi).1
  obtain ⟨n, hn⟩ : ∃ n, rows.length = n := ⟨_, rfl⟩
  have HFL := Lib.hid (flat_len rows hlen)
  have HN := Lib.hid hn
  obtain ⟨MK, hMK⟩ : ∃ MK, madeCells (.agg #[.int .i64 0, .int .i64 0, .int .i64 0, .slice none 0 0] : Value).cells (n * 4) = MK := ⟨_, rfl⟩
  have hms : MK.size = n * 4 := by rw [← hMK, size_madeCells]
  have hmk : ∀ W, (Instr.makeSlice 31 (.int .i64 0) (.int .i64 (n : Int))).run Tryz.prog W = .ok (.slice (some ⟨W.heap.size, 0, none⟩) 0 n) (W.alloc (.cells MK 40)) := fun W => by
    have := run_make (P := Tryz.prog) W 31 40 i0 (.agg #[.int .i64 0, .int .i64 0, .int .i64 0, .slice none 0 0]) Tryz.underlying31 hi hz0 .i64 .i64 0 (n : Int) (by omega) (by omega) (by rw [hz2]; omega) (by omega)
    rw [this, hz1, show ((n : Nat) : Int).toNat = n by omega, hMK]
    rfl
  have HM := Lib.hid (show (w.alloc (.cells MK 40)).ownsRow w.heap.size 40 4 (.slice (some ⟨w.heap.size, 0, none⟩) 0 n) 0 [] from World.ownsRow_made w MK n (Nat.le_refl _) (by unfold maxLen; omega) hms)
  have HB := Lib.hid ((Below.refl w.heap.size w).alloc (Nat.le_refl _) (.cells MK 40))
  have H := Lib.hid (h.later HB.out)
  have HONE := Lib.hid hone
  rw [hn] at h hroom ⊢
  have HSZ := Lib.hid (show (w.alloc (.cells MK 40)).heap.size = w.heap.size + 1 by simp)
  clear hMK hms hone hn hlen h
  have HL := Lib.hid (show 0 + n ≤ maxLen by unfold maxLen; omega)
  have HY := Lib.hid (show (0 + n) * 48 ≤ 140737488355328 by omega)
  have HZ := Lib.hid (show w.heap.size ≤ (w.alloc (.cells MK 40)).heap.size by rw [HSZ.out]; omega)
  rcases la with _ | ad
  · have hn0 : n = 0 := by
      rcases Nat.eq_zero_or_pos n with h0 | h0
      · exact h0
      · obtain ⟨la', c', hv, _, hr⟩ := H.out
        simp only [Value.slice.injEq] at hv
        obtain ⟨_, _, _, he, _⟩ := hr 0 _ (List.getElem?_eq_getElem (by rw [HN.out]; exact h0))
        rw [← hv.1] at he
        cases he
    subst hn0
    have hfl : rows.flatten = [] := List.eq_nil_of_length_eq_zero (by rw [HFL.out, HN.out, Nat.zero_mul])
    have hrn : (Builtin.append_ #[31, 31] 31 #[.slice (some ⟨w.heap.size, 0, none⟩) 0 0, .slice none 0 c]).run Tryz.prog (w.alloc (.cells MK 40)) = .ok (.slice (some ⟨w.heap.size, 0, none⟩) 0 0) (w.alloc (.cells MK 40)) := by
      simp [Builtin.append_, run_underlying Tryz.underlying31, sizeOf, typeInfo, hi, Builtin.lenOf, Builtin.firstCells, storeCells]
    rw [hfl]
    have hmk0 : ∀ W, (Instr.makeSlice 31 (.int .i64 0) (.int .i64 0)).run Tryz.prog W = .ok (.slice (some ⟨W.heap.size, 0, none⟩) 0 0) (W.alloc (.cells MK 40)) := hmk
    clear hmk hfl
    go_enter Tryz.func69, Tryz.ntmps69
    go_wp2_with fail
    go_ret
    exact ⟨⟨_, rfl, HM.out⟩, HB.out⟩
  · have HNEW := Lib.hid (row_news (by decide) H.out)
    go_enter Tryz.func69, Tryz.ntmps69
    go_wp2_with (at_builtin; refine wpList_append_own _ rfl _ _ 31 rfl w.heap.size 40 i0 (.agg #[.int .i64 0, .int .i64 0, .int .i64 0, .slice none 0 0]) 4 48 Tryz.underlying31 hi hz0 hz1 hz2 rfl (by decide) _ 0 [] rfl HM.out ad n c rows.flatten rfl (by rw [HFL.out, HN.out]) HNEW.out HONE.out HL.out HY.out HZ.out ?_)
    intro v' w1 hown hgrow _
    have HB1 := Lib.hid (HB.out.grown hgrow (by rw [HSZ.out]; omega) (fun k hk => (HM.out.lt k hk).1))
    have HO := Lib.hid (show w1.ownsRow w.heap.size 40 4 v' n rows.flatten by simpa using hown)
    clear hown hgrow
    go_wp2_with fail
    go_ret
    exact ⟨⟨_, rfl, HO.out⟩, HB1.out⟩
theorem linfo_int : (Tryz.prog.info? 3).map (fun i => (i.zero, i.size, i.bytes)) = some (some (.int .i64 0), 1, 8) := by kernel_rfl
set_option maxRecDepth 100000 in
set_option maxHeartbeats 1000000 in
theorem list_int (la : Option Addr) (c : Nat) (rows : List (List Value)) (w : World) (h : RowAt w 1 (.slice la rows.length c) rows) (hone : ∀ u ∈ rows.flatten, u.oneCell' = true) (hroom : rows.length * 8 ≤ 140737488355328) :
    Calls Tryz.prog 70 #[.slice la rows.length c] w fun e w' => (∃ v, e = .returned v ∧ w'.ownsRow w.heap.size 3 1 v rows.length rows.flatten) ∧ Below w.heap.size w w' := by
  obtain ⟨i0, hi, hz0, hz1, hz2⟩ := info_of linfo_int
  have hlen : ∀ r ∈ rows, r.length = 1 := fun r hx => by
    obtain ⟨_, _, _, _, hr⟩ := h
    obtain ⟨i, hi⟩ := List.getElem?_of_mem hx
    exact (hr i r hi).1
  obtain ⟨n, hn⟩ : ∃ n, rows.length = n := ⟨_, rfl⟩
  have HFL := Lib.hid (flat_len rows hlen)
  have HN := Lib.hid hn
  obtain ⟨MK, hMK⟩ : ∃ MK, madeCells (.int .i64 0 : Value).cells (n * 1) = MK := ⟨_, rfl⟩
  have hms : MK.size = n * 1 := by rw [← hMK, size_madeCells]
  have hmk : ∀ W, (Instr.makeSlice 38 (.int .i64 0) (.int .i64 (n : Int))).run Tryz.prog W = .ok (.slice (some ⟨W.heap.size, 0, none⟩) 0 n) (W.alloc (.cells MK 3)) := fun W => by
    have := run_make (P := Tryz.prog) W 38 3 i0 (.int .i64 0) Tryz.underlying38 hi hz0 .i64 .i64 0 (n : Int) (by omega) (by omega) (by rw [hz2]; omega) (by omega)
    rw [this, hz1, show ((n : Nat) : Int).toNat = n by omega, hMK]
    rfl
  have HM := Lib.hid (show (w.alloc (.cells MK 3)).ownsRow w.heap.size 3 1 (.slice (some ⟨w.heap.size, 0, none⟩) 0 n) 0 [] from World.ownsRow_made w MK n (Nat.le_refl _) (by unfold maxLen; omega) hms)
  have HB := Lib.hid ((Below.refl w.heap.size w).alloc (Nat.le_refl _) (.cells MK 3))
  have H := Lib.hid (h.later HB.out)
  have HONE := Lib.hid hone
  rw [hn] at h hroom ⊢
  have HSZ := Lib.hid (show (w.alloc (.cells MK 3)).heap.size = w.heap.size + 1 by simp)
  clear hMK hms hone hn hlen h
  have HL := Lib.hid (show 0 + n ≤ maxLen by unfold maxLen; omega)
  have HY := Lib.hid (show (0 + n) * 8 ≤ 140737488355328 by omega)
  have HZ := Lib.hid (show w.heap.size ≤ (w.alloc (.cells MK 3)).heap.size by rw [HSZ.out]; omega)
  rcases la with _ | ad
  · have hn0 : n = 0 := by
      rcases Nat.eq_zero_or_pos n with h0 | h0
      · exact h0
      · obtain ⟨la', c', hv, _, hr⟩ := H.out
        simp only [Value.slice.injEq] at hv
        obtain ⟨_, _, _, he, _⟩ := hr 0 _ (List.getElem?_eq_getElem (by rw [HN.out]; exact h0))
        rw [← hv.1] at he
        cases he
    subst hn0
    have hfl : rows.flatten = [] := List.eq_nil_of_length_eq_zero (by rw [HFL.out, HN.out, Nat.zero_mul])
    have hrn : (Builtin.append_ #[38, 38] 38 #[.slice (some ⟨w.heap.size, 0, none⟩) 0 0, .slice none 0 c]).run Tryz.prog (w.alloc (.cells MK 3)) = .ok (.slice (some ⟨w.heap.size, 0, none⟩) 0 0) (w.alloc (.cells MK 3)) := by
      simp [Builtin.append_, run_underlying Tryz.underlying38, sizeOf, typeInfo, hi, Builtin.lenOf, Builtin.firstCells, storeCells]
    rw [hfl]
    have hmk0 : ∀ W, (Instr.makeSlice 38 (.int .i64 0) (.int .i64 0)).run Tryz.prog W = .ok (.slice (some ⟨W.heap.size, 0, none⟩) 0 0) (W.alloc (.cells MK 3)) := hmk
    clear hmk hfl
    go_enter Tryz.func70, Tryz.ntmps70
    go_wp2_with fail
    go_ret
    exact ⟨⟨_, rfl, HM.out⟩, HB.out⟩
  · have HNEW := Lib.hid (row_news (by decide) H.out)
    go_enter Tryz.func70, Tryz.ntmps70
    go_wp2_with (at_builtin; refine wpList_append_own _ rfl _ _ 38 rfl w.heap.size 3 i0 (.int .i64 0) 1 8 Tryz.underlying38 hi hz0 hz1 hz2 rfl (by decide) _ 0 [] rfl HM.out ad n c rows.flatten rfl (by rw [HFL.out, HN.out]) HNEW.out HONE.out HL.out HY.out HZ.out ?_)
    intro v' w1 hown hgrow _
    have HB1 := Lib.hid (HB.out.grown hgrow (by rw [HSZ.out]; omega) (fun k hk => (HM.out.lt k hk).1))
    have HO := Lib.hid (show w1.ownsRow w.heap.size 3 1 v' n rows.flatten by simpa using hown)
    clear hown hgrow
    go_wp2_with fail
    go_ret
    exact ⟨⟨_, rfl, HO.out⟩, HB1.out⟩
end Go.Proofs.YthkdegmnnbepdaaGreatDoor.Mod
