/-
  The map of infos that op.all makes. No condition beyond what each theorem names.
-/
import Derived.Test.YtmbgemcddjailaaGreatDoorOpA
import Derived.Maps.Own
import Derived.Maps.OwnSet
import Derived.Deep.Onto
import Derived.Outline
import Derived.Lib.SmallJoins
import Derived.StillTailTactics
namespace Go.Proofs.YtmbgemcddjailaaGreatDoor.Op
open Go.RowKit Go.Maps
set_option linter.unusedVariables false
theorem ownsRow_later {B : Nat} {e : TypeId} {k : Nat} {v : Value} {n : Nat} {xs : List Value} {w w' : World} (h : w.ownsRow B e k v n xs) (hb : Below w.heap.size w w') : w'.ownsRow B e k v n xs := by
  refine ⟨h.1, ?_⟩
  rcases h.2 with h2 | ⟨g, cap, cur, hv, hg, hh, rest⟩
  · exact .inl h2
  · have hlt : g < w.heap.size := by
      rcases Nat.lt_or_ge g w.heap.size with h3 | h3
      · exact h3
      · rw [Array.getElem?_eq_none h3] at hh; cases hh
    exact .inr ⟨g, cap, cur, hv, hg, (hb.block g hlt).trans hh, rest⟩
def zeroG : Value := .agg #[.int .i64 0, .int .i64 0, .string ⟨#[]⟩, .string ⟨#[]⟩, .string ⟨#[]⟩]
theorem info_group : (Tryz.prog.info? 250).map (fun i => (i.zero, i.size, i.bytes)) = some (some zeroG, 5, 64) := by kernel_rfl
theorem info_group_parts : ∃ i, Tryz.prog.info? 250 = some i ∧ i.zero = some zeroG ∧ i.size = 5 ∧ i.bytes = 64 := by
  have h := info_group
  rw [Option.map_eq_some_iff] at h
  obtain ⟨i, hi, he⟩ := h
  simp only [Prod.mk.injEq] at he
  exact ⟨i, hi, he.1, he.2.1, he.2.2⟩
theorem one_cells : ∀ l : List Grp, ∀ u ∈ cellsG l, u.oneCell' = true := by
  intro l u hu
  unfold cellsG at hu
  obtain ⟨g, _, hg⟩ := List.mem_flatMap.1 hu
  unfold Grp.cells at hg
  simp at hg
  rcases hg with rfl | rfl | rfl | rfl | rfl <;> rfl
theorem ownsMap_later {P : Program} {k : TypeId} {R : Value → Option (DataW Value × List MemPlace)} {b n : Nat} {D : DataW Value} {w w' : World} (h : w.ownsMap P k R b n D) (hb : Below w.heap.size w w') : w'.ownsMap P k R b n D :=
  h.kept (row := none) ⟨hb.os, hb.tape, hb.output, hb.size, fun j hj _ => hb.block j hj⟩ (by simp)
theorem cellsG_get : ∀ (l : List Grp) (k : Nat) (g : Grp) (j : Nat), l[k]? = some g → j < 5 → (cellsG l)[5 * k + j]? = g.cells[j]?
  | [], k, g, j, h, _ => by simp at h
  | x :: l, 0, g, j, h, hj => by
    simp at h
    subst h
    show (x.cells ++ cellsG l)[5 * 0 + j]? = _
    rw [List.getElem?_append_left (by simp [Grp.cells]; omega)]
    simp
  | x :: l, k + 1, g, j, h, hj => by
    show (x.cells ++ cellsG l)[5 * (k + 1) + j]? = _
    rw [List.getElem?_append_right (by simp [Grp.cells]; omega)]
    have e : 5 * (k + 1) + j - x.cells.length = 5 * k + j := by simp [Grp.cells]; omega
    rw [e]
    exact cellsG_get l k g j (by simpa using h) hj
theorem names_all : (allG.all fun g => decide (g.names.size < 1000) && (g.names.data.toList.all fun b => decide (b.toNat < 128)) && decide (g.fields.length < 1000) && decide (0 ≤ g.code) && decide (g.code < 1000)) = true := by kernel_rfl
theorem names_ok {g : Grp} (h : g ∈ allG) : g.names.size < 1000 ∧ (∀ (j : Nat) b, g.names.data.toList[j]? = some b → b.toNat < 128) ∧ g.fields.length < 1000 ∧ 0 ≤ g.code ∧ g.code < 1000 := by
  have h1 := List.all_eq_true.1 names_all g h
  simp only [Bool.and_eq_true, decide_eq_true_eq, List.all_eq_true] at h1
  exact ⟨h1.1.1.1.1, fun j b hb => h1.1.1.1.2 b (List.mem_of_getElem? hb), h1.1.1.2, h1.1.2, h1.2⟩
def RelO (w : World) (gb gc : Nat) (i : Value) (wr : World) : Prop := ∃ k n : Nat, k ≤ 32 ∧ n ≤ 1000 * k ∧ i = .int .i64 k ∧ wr.ownsMap Tryz.prog 3 asIs w.heap.size n (mapG (allG.take k)) ∧ wr.ownsRow (w.heap.size + 1) 250 5 (.slice (some ⟨gb, 0, none⟩) 32 gc) 32 (cellsG allG) ∧ Below w.heap.size w wr ∧ w.heap.size < wr.heap.size
def RelI (w wr : World) (gb gc k m : Nat) (g : Grp) (fl : List (List UInt8)) (i : Value) (wi : World) : Prop := ∃ j : Nat, j ≤ fl.length ∧ i = .int .i64 j ∧ wi.ownsMap Tryz.prog 3 asIs w.heap.size (m + j) (mapGi (allG.take k) g j) ∧ wi.ownsRow (w.heap.size + 1) 250 5 (.slice (some ⟨gb, 0, none⟩) 32 gc) 32 (cellsG allG) ∧ Below w.heap.size w wi ∧ wr.heap.size + 1 < wi.heap.size ∧
  (∀ q v, g.cells[q]? = some v → wi.cell? ⟨wr.heap.size, q, none⟩ = some v) ∧ ∀ q, q < fl.length → wi.cell? ⟨wr.heap.size + 1, q, none⟩ = some (.string ⟨(fl.getD q []).toArray⟩)
theorem keyed_int : Keyed Tryz.prog 3 := int_keyed Tryz.underlying3
theorem key_int (a : Int) (h : (Lit.int .i64 a).wf = true) : keyOf Tryz.prog 3 (.int .i64 a) = some (.int .i64 a) := keyOf_int_mk Tryz.underlying3 h

set_option maxRecDepth 100000 in
set_option maxHeartbeats 2000000 in
theorem all_any (w : World) (h : OpEnv w) : Calls Tryz.prog 133 #[] w (MadeMap Tryz.prog 3 w infoD) := by
  obtain ⟨i0, hi, hz0, hz1, hz2⟩ := info_group_parts
  have HE := Lib.hid h
  clear h
  have hmm := @run_makeMap Tryz.prog
  have h0 := World.ownsMap_made w Tryz.prog 3 asIs
  have b0 : Below w.heap.size w (w.alloc (.map #[] 0)) := (Below.refl _ _).alloc (Nat.le_refl _) _
  have HO := Lib.hid h0
  clear h0
  go_enter Tryz.func133, Tryz.ntmps133
  go_wp2_with fail
  refine (plain_any _).mono ?_
  rintro e w1 ⟨v1, rfl, o1, c1, bb, cc, hv1⟩
  clear hv1
  have b1 := b0.trans (c1.mono b0.size)
  have O1 := Lib.hid (o1.mono (show w.heap.size + 1 ≤ _ by simp))
  have M1 := Lib.hid (ownsMap_later HO.out c1)
  clear o1 HO
  go_wp2_with fail
  refine (numbers_32 _ (opEnv_later HE.out b1)).mono ?_
  rintro e w2 ⟨v2, rfl, o2, c2, g2, n2, rfl⟩
  have b2 := b1.trans (c2.mono b1.size)
  have O2 := ownsRow_later O1.out c2
  have M2 := Lib.hid (ownsMap_later M1.out c2)
  have s1 := c1.size
  have s2 := c2.size
  simp at s1
  clear O1 M1
  go_wp2_with (at_builtin; refine wpList_append_own _ rfl _ _ 246 rfl (w.heap.size + 1) 250 i0 zeroG 5 64 Tryz.underlying246 hi hz0 hz1 hz2 rfl (by decide) _ _ _ rfl O2 ⟨g2, 0, none⟩ num32G.length n2 (cellsG num32G) rfl ?a1 ?a2 ?a3 ?a4 ?a5 ?a6 ?_)
  case a1 => exact o2.1
  case a2 => exact o2.cells rfl
  case a3 => exact one_cells _
  case a4 => exact of_decide_eq_true (by kernel_rfl)
  case a5 => exact of_decide_eq_true (by kernel_rfl)
  case a6 => omega
  intro v3 w3 O3 g3 _
  have b3 := b2.grown g3 b2.size (fun k hk => by have := (O2.lt k hk).1; omega)
  have M3 := Lib.hid (M2.out.kept g3 (fun e => by have := (O2.lt _ e.symm).1; omega))
  have H3 := Lib.hid (show w3.ownsRow (w.heap.size + 1) 250 5 v3 28 (cellsG (plainG ++ num32G)) by rw [show cellsG (plainG ++ num32G) = cellsG plainG ++ cellsG num32G from List.flatMap_append]; exact O3)
  have s3 := g3.size
  clear O2 o2 g3 O3 M2
  go_wp2_with fail
  refine (numbers_64 _ (opEnv_later HE.out b3)).mono ?_
  rintro e w4 ⟨v4, rfl, o4, c4, g4, n4, rfl⟩
  have b4 := b3.trans (c4.mono b3.size)
  have O4 := ownsRow_later H3.out c4
  have M4 := Lib.hid (ownsMap_later M3.out c4)
  have s4 := c4.size
  clear H3 M3
  go_wp2_with (at_builtin; refine wpList_append_own _ rfl _ _ 246 rfl (w.heap.size + 1) 250 i0 zeroG 5 64 Tryz.underlying246 hi hz0 hz1 hz2 rfl (by decide) _ _ _ rfl O4 ⟨g4, 0, none⟩ num64G.length n4 (cellsG num64G) rfl ?a1 ?a2 ?a3 ?a4 ?a5 ?a6 ?_)
  case a1 => exact o4.1
  case a2 => exact o4.cells rfl
  case a3 => exact one_cells _
  case a4 => exact of_decide_eq_true (by kernel_rfl)
  case a5 => exact of_decide_eq_true (by kernel_rfl)
  case a6 => omega
  intro v5 w5 O5 g5 _
  have b5 := b4.grown g5 b4.size (fun k hk => by have := (O4.lt k hk).1; omega)
  have M5 := Lib.hid (M4.out.kept g5 (fun e => by have := (O4.lt _ e.symm).1; omega))
  have H5' : w5.ownsRow (w.heap.size + 1) 250 5 v5 32 (cellsG allG) := by rw [show cellsG allG = cellsG (plainG ++ num32G) ++ cellsG num64G from List.flatMap_append]; exact O5
  obtain ⟨gb, gc, rfl⟩ := Go.Joins.ownsRow_form H5' (by decide)
  have H5 := Lib.hid H5'
  have s5 := g5.size
  clear O4 o4 g5 O5 M4 H5'
  go_wp2_with fail
  go_loopw [15] (fun i wr => RelO w gb gc i wr) (fun i _ => 32 - (intOf i).toNat)
  case atStart => exact ⟨0, 0, by omega, by omega, rfl, M5.out, H5.out, b5, by omega⟩
  case round =>
    obtain ⟨k, n, hk, hn, rfl, hmap, hrow, hbel, hsz⟩ := hrel
    obtain ⟨W1, rfl⟩ : ∃ W1, W1 = wr := ⟨_, rfl⟩
    clear b0 b1 b2 b3 b4 b5 s1 s2 s3 s4 s5 M5 H5
    by_cases hlt : k < 32
    · obtain ⟨g, hg⟩ : ∃ g, allG[k]? = some g := ⟨_, List.getElem?_eq_getElem (show k < allG.length from hlt)⟩
      have hc : ∀ j, j < 5 → W1.cell? ⟨gb, k * 5 + j, none⟩ = g.cells[j]? := fun j hj => by rw [Nat.mul_comm, hrow.cellAt (5 * k + j) (by omega), cellsG_get _ _ _ _ hg hj]
      have c0 : W1.cell? ⟨gb, k * 5, none⟩ = some (.int .i64 g.code) := hc 0 (by decide)
      have c1 : W1.cell? ⟨gb, k * 5 + 1, none⟩ = some (.int .i64 g.shape) := hc 1 (by decide)
      have c2 : W1.cell? ⟨gb, k * 5 + 2, none⟩ = some (.string g.params) := hc 2 (by decide)
      have c3 : W1.cell? ⟨gb, k * 5 + 3, none⟩ = some (.string g.results) := hc 3 (by decide)
      have c4 : W1.cell? ⟨gb, k * 5 + 4, none⟩ = some (.string g.names) := hc 4 (by decide)
      have hd : decide ((k : Int) < 32) = true := decide_eq_true (by omega)
      obtain ⟨n1, n2, n3, n4, n5⟩ := names_ok (List.mem_of_getElem? hg)
      have HM := Lib.hid hmap
      have HR := Lib.hid hrow
      have HG := Lib.hid hg
      have HN := Lib.hid n2
      have BB := Lib.hid ((hbel.alloc hbel.size (.cells #[.int .i64 g.code, .int .i64 g.shape, .string g.params, .string g.results, .string g.names] 250)))
      have HS := Lib.hid n1
      clear hmap hrow hc hg n1 n2
      go_wp2_with fail
      refine (Tryz.strings_Fields g.names _ (by have := HS.out; omega) HN.out (opEnv_later HE.out BB.out).2).mono ?_
      rintro e wf ⟨rfl, rfl⟩
      obtain ⟨fl, hfl⟩ : ∃ fl, Lib.fields g.names.data.toList = fl := ⟨_, rfl⟩
      rw [hfl]
      have HF := Lib.hid hfl
      have n3' : fl.length < 1000 := by rw [← hfl]; exact n3
      clear hfl n3 c0 c1 c2 c3 c4
      go_wp2_with fail
      go_loopw [24] (fun i wi => RelI w W1 gb gc k n g fl i wi) (fun i _ => fl.length - (intOf i).toNat)
      case atStart =>
        refine ⟨0, Nat.zero_le _, rfl, (HM.out.alloc _).alloc _, (HR.out.alloc _).alloc _, BB.out.alloc (by simp; omega) _, by simp, fun q v hq => ?_, fun q hq => ?_⟩
        · rw [World.cell?_alloc_past _ _ _ (by simp), World.cell?_alloc_at _ _ _ _ rfl, ← hq]
          simp [Grp.cells]
        · rw [World.cell?_alloc_at _ _ _ _ (by simp)]
          simp [hq, List.getD]
      case round =>
        obtain ⟨j, hj, rfl, hmi, hri, hbi, hsi, hbox, hfs⟩ := hrel
        by_cases hlt2 : j < fl.length
        · have c0 : wr.cell? ⟨W1.heap.size, 0, none⟩ = some (.int .i64 g.code) := hbox 0 _ rfl
          have c1 : wr.cell? ⟨W1.heap.size, 1, none⟩ = some (.int .i64 g.shape) := hbox 1 _ rfl
          have c2 : wr.cell? ⟨W1.heap.size, 2, none⟩ = some (.string g.params) := hbox 2 _ rfl
          have c3 : wr.cell? ⟨W1.heap.size, 3, none⟩ = some (.string g.results) := hbox 3 _ rfl
          obtain ⟨nm, hnm⟩ : ∃ nm, fl.getD j [] = nm := ⟨_, rfl⟩
          have cf : wr.cell? ⟨W1.heap.size + 1, j, none⟩ = some (.string ⟨nm.toArray⟩) := by rw [← hnm]; exact hfs j hlt2
          have hd2 : decide (j < fl.length) = true := decide_eq_true hlt2
          obtain ⟨w6, hrun, hown, hgr⟩ := hmi.drew.update (val := .agg #[.string ⟨nm.toArray⟩, .int .i64 g.shape, .string g.params, .string g.results]) keyed_int Tryz.underlying154 (by unfold maxLen; omega) (key_int (g.code + j) (by simp [Lit.wf, IntKind.min, IntKind.max, IntKind.signed, IntKind.bits]; omega)) rfl
          have HN2 := Lib.hid hnm
          have HMI := Lib.hid hown
          have HRI := Lib.hid (hri.drew.kept hgr (.inr (fun e => by have := (hri.lt _ e).1; omega)))
          have HBI := Lib.hid ((show Below w.heap.size w wr.drew from hbi.trans ⟨rfl, rfl, rfl, Nat.le_refl _, fun _ _ => rfl⟩).grown hgr (by show w.heap.size ≤ wr.heap.size; omega) (fun k hk => by cases hk; exact Nat.le_refl _))
          have HSI := Lib.hid (show W1.heap.size + 1 < w6.heap.size from Nat.lt_of_lt_of_le hsi hgr.size)
          have HBX := Lib.hid (show ∀ q v, g.cells[q]? = some v → w6.cell? ⟨W1.heap.size, q, none⟩ = some v from fun q v hq => hgr.cell (hbox q v hq) (fun e => by have := Option.some.inj e; simp at this; omega))
          have HFS := Lib.hid (show ∀ q, q < fl.length → w6.cell? ⟨W1.heap.size + 1, q, none⟩ = some (.string ⟨(fl.getD q []).toArray⟩) from fun q hq => hgr.cell (hfs q hq) (fun e => by have := Option.some.inj e; simp at this; omega))
          clear hnm hown hri hbi hbox hfs hmi hgr
          go_wp2_with fail
          go_still_tail 16, (by kernel_rfl)
          change wpList _ _ _ _ _ wr.drew
          go_wp2_with fail
          rw [hrun]
          clear hrun
          go_wp2_with fail
          go_roundw
          case rel => exact ⟨j + 1, by omega, by go_num, by rw [mapGi_succ]; unfold addE Grp.entry infoV; rw [show g.fields = fl from HF.out, HN2.out]; exact HMI.out, HRI.out, HBI.out, HSI.out, HBX.out, HFS.out⟩
          case measure => simp [intOf]; omega
        · obtain rfl : j = fl.length := by omega
          have hd2 : decide (fl.length < fl.length) = false := by simp
          have HMI := Lib.hid hmi
          have HRI := Lib.hid hri
          have HBX := Lib.hid hbox
          have HFS := Lib.hid hfs
          clear hmi hri hbox hfs
          go_wp2_with fail
          go_roundw
          case rel =>
            have hsn : allG.take (k + 1) = allG.take k ++ [g] := by rw [List.take_add_one, HG.out]; rfl
            refine ⟨k + 1, n + fl.length, by omega, by omega, by go_num, ?_, HRI.out, hbi, by omega⟩
            rw [hsn, mapG_snoc, show g.fields = fl from HF.out]
            exact HMI.out
          case measure => simp [intOf]; omega
    · obtain rfl : k = 32 := by omega
      have hd : decide (((32 : Nat) : Int) < 32) = false := by decide
      have HM := Lib.hid hmap
      clear hmap hrow
      go_wp2_with fail
      go_ret
      exact ⟨_, _, rfl, HM.out, hbel, Nat.le_refl _⟩
end Go.Proofs.YtmbgemcddjailaaGreatDoor.Op
