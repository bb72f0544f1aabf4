/-
  VldU, VldV in one.
-/
import Derived.Test.YtmbgemcddjailaaGreatDoorVldGa
import Derived.WideKeyEntry
import Derived.DeepKeys4
/- VldU: What valid.exports answers. No condition beyond what each theorem names. -/
namespace Go.Proofs.YtmbgemcddjailaaGreatDoor.Vld
open Go.RowKit Go.Maps Go.Proofs.YtmbgemcddjailaaGreatDoor.Op Go.Proofs.YtmbgemcddjailaaGreatDoor.Mod
set_option linter.unusedVariables false
def kN (nm : ByteArray) : Lit := .string (keyBytes [.string nm.data.toList])
theorem laid_out : laidOutB Tryz.prog = true := by kernel_rfl
theorem keytype_thing : Tryz.prog.keyType 152 = true := by kernel_rfl
theorem law_thing : WideMaps.KeyLaw Tryz.prog 152 :=
  deep_law_laid laid_out (m := 3) (by omega) (of_decide_eq_true (by kernel_rfl)) (by kernel_rfl) (by kernel_rfl)
theorem keyed_thing : Keyed Tryz.prog 152 := Keyed.of_law law_thing
theorem size_types : ∃ n, Tryz.prog.types.size + 1 = n + 2 := ⟨Tryz.prog.types.size - 1, by have : 1 ≤ Tryz.prog.types.size := of_decide_eq_true (by kernel_rfl); omega⟩
theorem cells_thing : Tryz.prog.cellsOf 152 = 1 := by kernel_rfl
theorem cells_string : Tryz.prog.cellsOf 9 = 1 := by kernel_rfl
theorem key_thing (nm : ByteArray) (h : nm.size ≤ maxLen) : keyOf Tryz.prog 152 (.agg #[.string nm]) = some (kN nm) := by
  obtain ⟨n, hn⟩ := size_types
  have hu := Tryz.underlying152
  have hf : (Value.agg #[.string nm]).formed Tryz.prog 152 = true := by kernel_rfl
  have hl : Tryz.prog.keyLits (n + 2) 152 [.string nm] = some [.string nm.data.toList] := by
    unfold Program.keyLits
    rw [hu]
    simp [cells_thing, cells_string, Program.keyLits, Tryz.underlying9, h]
  unfold keyOf
  rw [hu]
  simp only [keytype_thing, hf, hn]
  rw [show (Value.agg #[.string nm]).cells.toList = [.string nm] from rfl, hl]
  rfl
theorem kN_inj {a b : ByteArray} (ha : a.size ≤ maxLen) (hb : b.size ≤ maxLen) (h : kN a = kN b) : a = b := by
  have h1 := keyed_thing.inj (key_thing a ha) ((key_thing b hb).trans (congrArg some h.symm))
  simpa using h1
theorem zero_int (w : World) : (zeroValue 3).run Tryz.prog w = .ok (.int .i64 0) w := by kernel_rfl
theorem ok_inj {α : Type} {a b : α} {w w' : World} (h : Result.ok a w = Result.ok b w') : a = b ∧ w = w' := by injection h with h1 h2; exact ⟨h1, h2⟩
set_option maxRecDepth 100000 in
/-- behind the entry is laid it reads as before -/
theorem entry_look {w w1 : World} {b n : Nat} {D : DataW Value} (h : w.ownsMap Tryz.prog 152 asIs b n D) (hn : n < maxLen) (nm : ByteArray) (hs : nm.size ≤ maxLen) (v : Int) (hv : D.atKey (kN nm) (.held (.int .i64 0)) = .held (.int .i64 v)) {r : Value}
    (hr : (Instr.mapEntry 150 (.map (some b)) (.agg #[.string nm])).run Tryz.prog w = .ok r w1) : (Instr.lookup 150 (.map (some b)) (.agg #[.string nm]) false).run Tryz.prog w1 = .ok (.int .i64 v) w1 := by
  have hk := key_thing nm hs
  have look : ∀ {W : World} {n' : Nat} {D' : DataW Value}, W.ownsMap Tryz.prog 152 asIs b n' D' → D'.atKey (kN nm) (.held (.int .i64 0)) = .held (.int .i64 v) → (Instr.lookup 150 (.map (some b)) (.agg #[.string nm]) false).run Tryz.prog W = .ok (.int .i64 v) W := fun {W n' D'} h' hv' => by
    obtain ⟨u, ps, hrun, hu⟩ := h'.lookup keyed_thing Tryz.underlying150 (zero_int W) (show asIs (.int .i64 0) = some (.held (.int .i64 0), []) from rfl) hk
    have hu1 : DataW.held u = D'.atKey (kN nm) (.held (.int .i64 0)) := congrArg Prod.fst (Option.some.inj hu)
    rw [hv'] at hu1
    obtain rfl := held_inj hu1
    exact hrun
  have h0 := h
  have hl0 := look h hv
  obtain ⟨es, clock, hb, F, hsz, hD⟩ := h
  have ht := Tryz.underlying150
  rcases law_thing.find w hk es.toList F.keys with ⟨h1, h2⟩ | ⟨j, e0, h1, h2, h3⟩
  · have hr1 : (Instr.mapEntry 150 (.map (some b)) (.agg #[.string nm])).run Tryz.prog w = .ok (.tuple #[.int .i64 0, goInt clock]) (ChangeMaps.setBlock w b (.map (es.push ⟨.agg #[.string nm], .int .i64 0, clock⟩) (clock + 1))) := by
      simp [Instr.mapEntry, run_underlying ht, MapKept.run_getObj_map hb, law_thing.check w false hk, h1, MapKept.run_setObj_map _ hb, Result.andThen, ChangeMaps.setBlock]
    have hu1 : (Instr.mapUpdate 150 (.map (some b)) (.agg #[.string nm]) (.int .i64 0)).run Tryz.prog w = .ok () (ChangeMaps.setBlock w b (.map (es.push ⟨.agg #[.string nm], .int .i64 0, clock⟩) (clock + 1))) := by
      simp [Instr.mapUpdate, run_underlying ht, MapKept.run_getObj_map hb, law_thing.check w false hk, h1, MapKept.run_setObj_map _ hb, Result.andThen, ChangeMaps.setBlock]
    have hl1 : (Instr.lookup 150 (.map (some b)) (.agg #[.string nm]) false).run Tryz.prog w = .ok (.int .i64 0) w := by
      simp [Instr.lookup, run_underlying ht, MapKept.run_getObj_map hb, law_thing.check w es.isEmpty hk, h1, Result.andThen]
    have e1 := (ok_inj (hl0.symm.trans hl1)).1
    obtain rfl : v = 0 := by simpa using e1
    obtain rfl := (ok_inj (hr1.symm.trans hr)).2
    obtain ⟨w', hrun', hown', _⟩ := h0.update keyed_thing ht hn (val := .int .i64 0) hk (show asIs (.int .i64 0) = some (.held (.int .i64 0), []) from rfl)
    rw [(ok_inj (hu1.symm.trans hrun')).2]
    refine look hown' ?_
    obtain ⟨es', hD'⟩ : IsMap D := by rw [hD]; exact ⟨_, rfl⟩
    exact atKey_put_same (k := kN nm) ⟨es', hD'⟩ (by simp [kN, WideAt.IsKeyLit]) _ _
  · have hj : es[j]? = some e0 := by simpa using h2
    have hsame : es.modify j (fun e => { e with key := .agg #[.string nm] }) = es := by
      apply Array.ext'
      rw [Array.toList_modify, ChangeMaps.modify_eq_set _ _ _ _ h2]
      have : ({ e0 with key := .agg #[.string nm] } : MapEntry) = e0 := by rw [← h3]
      rw [this]
      exact WideElems.set_self _ _ _ h2
    have hr1 : (Instr.mapEntry 150 (.map (some b)) (.agg #[.string nm])).run Tryz.prog w = .ok (.tuple #[e0.val, goInt e0.born]) (ChangeMaps.setBlock w b (.map es clock)) := by
      simp [Instr.mapEntry, run_underlying ht, MapKept.run_getObj_map hb, law_thing.check w false hk, h1, hj, h3, law_thing.stays w hk, hsame, MapKept.run_setObj_map _ hb, Result.andThen, ChangeMaps.setBlock]
    obtain rfl := (ok_inj (hr1.symm.trans hr)).2
    exact look (ownsMap_of h0 ((ChangeMaps.heap_setBlock_same hb _).trans hb.symm)) hv
/-- one more of a thing: asked, its entry, stored -/
theorem met_more {w : World} {b n : Nat} {D : DataW Value} (h : w.ownsMap Tryz.prog 152 asIs b n D) (hn : n < maxLen) (nm : ByteArray) (hs : nm.size ≤ maxLen) (v : Int) (hv : D.atKey (kN nm) (.held (.int .i64 0)) = .held (.int .i64 v)) :
    (Instr.lookup 150 (.map (some b)) (.agg #[.string nm]) false).run Tryz.prog w = .ok (.int .i64 v) w ∧
    ∃ (v0 : Value) (st : Nat) (w1 w2 : World), (Instr.mapEntry 150 (.map (some b)) (.agg #[.string nm])).run Tryz.prog w = .ok (.tuple #[v0, .int .i64 (st : Int)]) w1 ∧ (Instr.entryStore 150 (.map (some b)) (.int .i64 (st : Int)) (.int .i64 (v + 1))).run Tryz.prog w1 = .ok () w2 ∧
      w2.ownsMap Tryz.prog 152 asIs b (n + 1) (D.put (kN nm) (.held (.int .i64 (v + 1)))) ∧ w.grownBy w2 (some b) := by
  have hk := key_thing nm hs
  obtain ⟨u, ps, hrun, hu⟩ := h.lookup keyed_thing Tryz.underlying150 (zero_int w) (show asIs (.int .i64 0) = some (.held (.int .i64 0), []) from rfl) hk
  have hu1 : DataW.held u = D.atKey (kN nm) (.held (.int .i64 0)) := congrArg Prod.fst (Option.some.inj hu)
  rw [hv] at hu1
  obtain rfl := held_inj hu1
  refine ⟨hrun, ?_⟩
  obtain ⟨es, clock, hb, F, hsz, hD⟩ := h
  obtain ⟨v0, st, es1, clock1, he, _, hst⟩ := WideElems.entry_then_store law_thing Tryz.underlying150 (z := .int .i64 0) (fun u => zero_int u) hb F hk
  obtain ⟨es', clock', hs1, hs2⟩ := hst (ChangeMaps.setBlock w b (.map es1 clock1)) (.int .i64 (v + 1)) (ChangeMaps.heap_setBlock_same hb _)
  obtain ⟨w', hrun', hown', hgr'⟩ := World.ownsMap.update (n := n) (D := D) ⟨es, clock, hb, F, hsz, hD⟩ keyed_thing Tryz.underlying150 hn (val := .int .i64 (v + 1)) hk (show asIs (.int .i64 (v + 1)) = some (.held (.int .i64 (v + 1)), []) from rfl)
  have hw := (ok_inj (hs2.symm.trans hrun')).2
  refine ⟨v0, st, _, _, he, hs1, ?_, ?_⟩
  · rw [show ChangeMaps.setBlock (ChangeMaps.setBlock w b (.map es1 clock1)) b (.map es' clock') = ChangeMaps.setBlock w b (.map es' clock') by simp [ChangeMaps.setBlock], hw]
    exact hown'
  · rw [show ChangeMaps.setBlock (ChangeMaps.setBlock w b (.map es1 clock1)) b (.map es' clock') = ChangeMaps.setBlock w b (.map es' clock') by simp [ChangeMaps.setBlock], hw]
    exact hgr'
def manyE (m : ModP) (kind : Int) : Int := if kind = 0 then (m.funcs.length : Int) else if kind = 2 then (m.memory.length : Int) else if kind = 3 then (m.globals.length : Int) else 0
def expGo (m : ModP) : List (List UInt8) → List ExpP → Bool
  | _, [] => true
  | seen, x :: xs => if manyE m x.kind ≤ x.index ∨ x.name.data.toList ∈ seen then false else expGo m (x.name.data.toList :: seen) xs
def exportsB (m : ModP) : Bool := expGo m [] m.exports
/-- the map of names met -/
def MetOk (D : DataW Value) (seen : List (List UInt8)) : Prop := IsMap D ∧ ∀ nm : ByteArray, nm.size ≤ maxLen → D.atKey (kN nm) (.held (.int .i64 0)) = .held (.int .i64 (if nm.data.toList ∈ seen then 1 else 0))
theorem metOk_put {D : DataW Value} {seen : List (List UInt8)} (h : MetOk D seen) {nm : ByteArray} (hs : nm.size ≤ maxLen) : MetOk (D.put (kN nm) (.held (.int .i64 (0 + 1)))) (nm.data.toList :: seen) := by
  refine ⟨by obtain ⟨es, rfl⟩ := h.1; exact ⟨_, rfl⟩, fun a ha => ?_⟩
  by_cases he : a.data.toList = nm.data.toList
  · have hk : kN a = kN nm := by unfold kN; rw [he]
    rw [hk, atKey_put_same (k := kN nm) h.1 (by simp [kN, WideAt.IsKeyLit]), if_pos (by rw [he]; simp)]
    rfl
  · have hne : a ≠ nm := fun e => he (by rw [e])
    rw [atKey_put_other (fun e => hne (kN_inj ha hs e)), h.2 a ha]
    have : (a.data.toList ∈ nm.data.toList :: seen) ↔ a.data.toList ∈ seen := by simp [he]
    by_cases hm : a.data.toList ∈ seen
    · rw [if_pos hm, if_pos (this.2 hm)]
    · rw [if_neg hm, if_neg (fun h => hm (this.1 h))]
def RelE (w : World) (mb : Nat) (m : ModP) (R : Bool) (i : Value) (wr : World) : Prop :=
  ∃ (j : Nat) (n : Nat) (D : DataW Value) (seen : List (List UInt8)), j ≤ m.exports.length ∧ i = .int .i64 (j : Int) ∧ n ≤ j ∧ wr.ownsMap Tryz.prog 152 asIs mb n D ∧ MetOk D seen ∧ expGo m seen (m.exports.drop j) = R ∧ Below w.heap.size w wr
set_option maxRecDepth 100000 in
set_option maxHeartbeats 4000000 in
theorem exports_any (t fv me g e : Value) (st : Int) (d : Value) (m : ModP) (w : World) (hM : ModAt w t fv me g e st d m) (hK : ∀ x ∈ m.exports, x.kind = 0 ∨ x.kind = 2 ∨ x.kind = 3) (hl : m.exports.length ≤ 1000000) (hz : ∀ x ∈ m.exports, x.name.size ≤ maxLen) :
    Calls Tryz.prog 30 #[modV t fv me g e st d] w fun en w' => en = .returned (.bool (exportsB m)) ∧ Below w.heap.size w w' := by
  obtain ⟨ta, tc, htv, _, _⟩ := hM.types.form
  obtain ⟨fa, fc, hfv, _, _⟩ := hM.funcs.form
  obtain ⟨ma, mc, hmv, _, _⟩ := hM.memory.form
  obtain ⟨ga, gc, hgv, _, _⟩ := hM.globals.form
  obtain ⟨ea, ec, hev, hel, hex⟩ := hM.exports.form
  obtain ⟨da, dc, hdv, _, _⟩ := hM.data.form
  subst htv hfv hmv hgv hev hdv
  obtain ⟨R, hR⟩ : ∃ R, exportsB m = R := ⟨_, rfl⟩
  rw [hR]
  obtain ⟨N, hN⟩ : ∃ N, m.exports.length = N := ⟨_, rfl⟩
  have HR := Lib.hid hR
  have HN := Lib.hid hN
  have HEX := Lib.hid hex
  have HK := Lib.hid hK
  have HZ := Lib.hid hz
  have hn6 : N ≤ 1000000 := by omega
  have hmm := @run_makeMap Tryz.prog
  unfold modV
  rw [hN]
  clear hM hex hK hz hR hel hl
  go_enter Tryz.func30, Tryz.ntmps30
  go_upto_region 2 with fail
  obtain ⟨W0, hW0⟩ : ∃ W0, w.alloc (.cells #[.slice ta m.types.length tc, .slice fa m.funcs.length fc, .slice ma m.memory.length mc, .slice ga m.globals.length gc, .slice ea N ec, .int .i64 st, .slice da m.data.length dc] 41) = W0 := ⟨_, rfl⟩
  rw [hW0]
  have n0 : W0.heap[w.heap.size]? = some (.cells #[.slice ta m.types.length tc, .slice fa m.funcs.length fc, .slice ma m.memory.length mc, .slice ga m.globals.length gc, .slice ea N ec, .int .i64 st, .slice da m.data.length dc] 41 (0, 0)) := by rw [← hW0]; exact heap_alloc_new w _
  have b0 : Below w.heap.size w W0 := by rw [← hW0]; exact (Below.refl _ _).alloc (Nat.le_refl _) _
  have s0 : W0.heap.size = w.heap.size + 1 := by rw [← hW0]; simp
  have h0 := World.ownsMap_made W0 Tryz.prog 152 asIs
  rw [s0] at h0
  obtain ⟨W1, hW1⟩ : ∃ W1, W0.alloc (.map #[] 0) = W1 := ⟨_, rfl⟩
  rw [hW1] at h0 ⊢
  have b1 : Below W0.heap.size W0 W1 := by rw [← hW1]; exact (Below.refl _ _).alloc (Nat.le_refl _) _
  have N1 := Lib.hid (block_later n0 b1)
  have B1 := Lib.hid (b0.trans (b1.mono b0.size))
  have H0 := Lib.hid h0
  have L1 := Lib.hid (show w.heap.size + 1 < W1.heap.size by rw [← hW1]; simp; omega)
  obtain ⟨p0, p1, p2, p3, p4, p5, p6⟩ := mod_cells (block_later n0 b1)
  clear hW0 n0 b0 h0 hW1 b1 s0
  go_wp2_with fail
  go_loopw [11] (fun ii wr => RelE w (w.heap.size + 1) m R ii wr ∧ Keeps (fun j => j = w.heap.size + 1) W1 wr) (fun ii _ => N - (intOf ii).toNat)
  case atStart => exact ⟨⟨0, 0, .map [], [], Nat.zero_le _, rfl, Nat.le_refl _, H0.out, ⟨⟨[], rfl⟩, fun nm hn => rfl⟩, HR.out, B1.out⟩, .refl _ _⟩
  case round =>
    obtain ⟨⟨j, n, D, seen, hj, rfl, hnj, hmap, hok, hgo, hb⟩, hkp⟩ := hrel
    obtain ⟨Wj, rfl⟩ : ∃ Wj, Wj = wr := ⟨_, rfl⟩
    rw [HN.out] at hj
    have hwj : IntKind.i64.wrap ((j : Int) + 1) = (j : Int) + 1 := IntWalk.i64_in _ (by omega)
    have nj : Wj.heap[w.heap.size]? = some (.cells #[.slice ta m.types.length tc, .slice fa m.funcs.length fc, .slice ma m.memory.length mc, .slice ga m.globals.length gc, .slice ea N ec, .int .i64 st, .slice da m.data.length dc] 41 (0, 0)) := (hkp.block w.heap.size (by have := L1.out; omega) (by omega)).trans N1.out
    by_cases hlt : j < N
    · obtain ⟨xi, hxi⟩ : ∃ xi, m.exports[j]? = some xi := ⟨_, List.getElem?_eq_getElem (by have := HN.out; omega)⟩
      obtain ⟨rr, ⟨hrr, _⟩, _, bc, offc, hcaa, hbc, hcc⟩ := HEX.out j xi hxi
      subst hcaa
      rw [hrr] at hcc
      obtain ⟨nm, kd, ix⟩ := xi
      have e0 : Wj.cell? ⟨bc, offc + j * 3, none⟩ = some (.string nm) := cell_later hb (hcc 0 _ rfl)
      have e1 : Wj.cell? ⟨bc, offc + j * 3 + 1, none⟩ = some (.int .i64 kd) := cell_later hb (hcc 1 _ rfl)
      have e2 : Wj.cell? ⟨bc, offc + j * 3 + 2, none⟩ = some (.int .i64 ix) := cell_later hb (hcc 2 _ rfl)
      have hmem := List.mem_of_getElem? hxi
      have hkd : kd = 0 ∨ kd = 2 ∨ kd = 3 := HK.out _ hmem
      have hnm : nm.size ≤ maxLen := HZ.out _ hmem
      have hdj : m.exports.drop j = ⟨nm, kd, ix⟩ :: m.exports.drop (j + 1) := by
        have hlj : j < m.exports.length := by have := HN.out; omega
        rw [List.drop_eq_getElem_cons hlj]
        congr 1
        exact (List.getElem?_eq_some_iff.1 hxi).2
      rw [hdj] at hgo
      change (if manyE m kd ≤ ix ∨ nm.data.toList ∈ seen then false else expGo m (nm.data.toList :: seen) (m.exports.drop (j + 1))) = R at hgo
      have hd2 : decide (j < N) = true := decide_eq_true hlt
      have hi0 : (0 : Int) ≤ (j : Int) := by omega
      have hi1 : (j : Int) < (N : Int) := by omega
      have HB := Lib.hid hb
      have HKP := Lib.hid hkp
      have HGO := Lib.hid hgo
      have HOK := Lib.hid hok
      have HMP := Lib.hid hmap
      have NJ := Lib.hid nj
      have HNM := Lib.hid hnm
      clear hxi hrr hcc hmem hdj hgo hb hkp hok hmap nj hnm p0 p1 p2 p3 p4 p5 p6
      go_upto_region 5 with fail
      obtain ⟨W2, hW2⟩ : ∃ W2, Wj.alloc (.cells #[.string nm, .int .i64 kd, .int .i64 ix] 98) = W2 := ⟨_, rfl⟩
      rw [hW2]
      have b2 : Below Wj.heap.size Wj W2 := by rw [← hW2]; exact (Below.refl _ _).alloc (Nat.le_refl _) _
      have x2 : W2.heap[Wj.heap.size]? = some (.cells #[.string nm, .int .i64 kd, .int .i64 ix] 98 (0, 0)) := by rw [← hW2]; exact heap_alloc_new Wj _
      have X2 := Lib.hid x2
      have B2 := Lib.hid b2
      have g0 : W2.cell? ⟨Wj.heap.size, 0, none⟩ = some (.string nm) := (cell_of_row W2 _ _ _ _ _ x2).trans rfl
      have hmap2 := ownsMap_of HMP.out (b2.block _ HMP.out.lt)
      obtain ⟨v, hv⟩ : ∃ v : Int, (if nm.data.toList ∈ seen then (1 : Int) else 0) = v := ⟨_, rfl⟩
      have hat := HOK.out.2 nm HNM.out
      rw [hv] at hat
      obtain ⟨hlk, v0, sm, w3, w4, hme, hst, hown, hgr⟩ := met_more hmap2.drew (by unfold maxLen; omega) nm HNM.out v hat
      have hv0 : v = 0 ∨ v = 1 := by rw [← hv]; split <;> simp
      have hwv : IntKind.i64.wrap (v + 1) = v + 1 := IntWalk.i64_in _ (by omega)
      have HOWN := Lib.hid hown
      have HGR := Lib.hid hgr
      have HV := Lib.hid hv
      have HV0 := Lib.hid hv0
      clear hW2 b2 x2 hmap2 hat hown hgr hv hv0
      have hlk3 := entry_look (ownsMap_of HMP.out (B2.out.block _ HMP.out.lt)).drew (by unfold maxLen; omega) nm HNM.out v (by have := HOK.out.2 nm HNM.out; rw [HV.out] at this; exact this) hme
      have B4 := Lib.hid (show Below w.heap.size w w4 from ((HB.out.trans (B2.out.mono HB.out.size)).drew).grown HGR.out (Nat.le_trans HB.out.size B2.out.size) (fun k hk => by cases hk; omega))
      have K4 := Lib.hid (show Keeps (fun j => j = w.heap.size + 1) W1 w4 from ((HKP.out.trans (Keeps.of_below (F := fun j => j = w.heap.size + 1) B2.out) (fun j hj => .inl hj)).trans (Keeps.of_below (F := fun j => j = w.heap.size + 1) (Below.refl W2.heap.size W2).drew) (fun j hj => .inl hj)).trans (Keeps.grown (F := fun j => j = w.heap.size + 1) HGR.out (fun k hk => (Option.some.inj hk).symm)) (fun j hj => .inl hj))
      have n4 : w4.heap[w.heap.size]? = some (.cells #[.slice ta m.types.length tc, .slice fa m.funcs.length fc, .slice ma m.memory.length mc, .slice ga m.globals.length gc, .slice (some ⟨bc, offc, none⟩) N ec, .int .i64 st, .slice da m.data.length dc] 41 (0, 0)) := (HGR.out.block w.heap.size (Nat.lt_of_lt_of_le (Array.getElem?_eq_some_iff.1 NJ.out).1 B2.out.size) (fun e => by have := Option.some.inj e; omega)).trans (show W2.heap[w.heap.size]? = _ from block_later NJ.out B2.out)
      have x4 : w4.heap[Wj.heap.size]? = some (.cells #[.string nm, .int .i64 kd, .int .i64 ix] 98 (0, 0)) := (HGR.out.block Wj.heap.size (Array.getElem?_eq_some_iff.1 X2.out).1 (fun e => by have h1 := Option.some.inj e; have h2 := HMP.out.lt; omega)).trans X2.out
      have N4 := Lib.hid n4
      have X4 := Lib.hid x4
      have hown5 := HOWN.out.alloc (.cells #[.int .i64 (m.funcs.length : Int), .int .i64 0, .int .i64 (m.memory.length : Int), .int .i64 (m.globals.length : Int)] 3)
      obtain ⟨u5, ps5, hlk5, hu5⟩ := hown5.lookup keyed_thing Tryz.underlying150 (zero_int _) (show asIs (.int .i64 0) = some (.held (.int .i64 0), []) from rfl) (key_thing nm HNM.out)
      have hu6 : DataW.held u5 = .held (.int .i64 (v + 1)) := (congrArg Prod.fst (Option.some.inj hu5)).trans (atKey_put_same (k := kN nm) HOK.out.1 (by simp [kN, WideAt.IsKeyLit]) _ _)
      obtain rfl := held_inj hu6
      have HLK := Lib.hid hlk5
      clear n4 x4 hown5 hu5 hu6 hlk5
      go_region
      all_goals
        go_upto_region 6 with fail
        obtain ⟨p0, p1, p2, p3, p4, p5, p6⟩ := mod_cells N4.out
        have g0 : w4.cell? ⟨Wj.heap.size, 0, none⟩ = some (.string nm) := (cell_of_row w4 _ _ _ _ _ X4.out).trans rfl
        have g1 : w4.cell? ⟨Wj.heap.size, 1, none⟩ = some (.int .i64 kd) := (cell_of_row w4 _ _ _ _ _ X4.out).trans rfl
        have g2 : w4.cell? ⟨Wj.heap.size, 2, none⟩ = some (.int .i64 ix) := (cell_of_row w4 _ _ _ _ _ X4.out).trans rfl
        have hl4 : Wj.heap.size < w4.heap.size := (Array.getElem?_eq_some_iff.1 X4.out).1
        have hlk5 := HLK.out
        clear hlk hme hst hlk3
        rcases hkd with rfl | rfl | rfl
        · have hmn : manyE m 0 = (m.funcs.length : Int) := rfl
          have hgo := HGO.out
          rw [hmn] at hgo
          by_cases hge : (m.funcs.length : Int) ≤ ix
          · rw [if_pos (.inl hge)] at hgo
            subst hgo
            have hd3 : decide ((m.funcs.length : Int) ≤ ix) = true := decide_eq_true hge
            go_wp2_with fail
            go_ret
            exact ⟨rfl, B4.out.alloc B4.out.size _⟩
          · have hd3 : decide ((m.funcs.length : Int) ≤ ix) = false := decide_eq_false hge
            by_cases hin : nm.data.toList ∈ seen
            · rw [if_pos (.inr hin)] at hgo
              subst hgo
              have hv1 : v = 1 := by have := HV.out; rw [if_pos hin] at this; exact this.symm
              subst hv1
              go_wp2_with fail
              go_ret
              exact ⟨rfl, B4.out.alloc B4.out.size _⟩
            · rw [if_neg (by rintro (h | h); exact hge h; exact hin h)] at hgo
              have hv1 : v = 0 := by have := HV.out; rw [if_neg hin] at this; exact this.symm
              subst hv1
              have HGO2 := Lib.hid hgo
              clear hgo
              go_wp2_with fail
              go_roundw
              case rel => exact ⟨⟨j + 1, n + 1, _, _, by have := HN.out; omega, by go_num, by omega, HOWN.out.alloc _, metOk_put HOK.out HNM.out, HGO2.out, B4.out.alloc B4.out.size _⟩, K4.out.trans (Keeps.alloc _ _ _) (fun j hj => .inl hj)⟩
              case measure => simp [intOf]; omega
        · have hmn : manyE m 2 = (m.memory.length : Int) := rfl
          have hgo := HGO.out
          rw [hmn] at hgo
          by_cases hge : (m.memory.length : Int) ≤ ix
          · rw [if_pos (.inl hge)] at hgo
            subst hgo
            have hd3 : decide ((m.memory.length : Int) ≤ ix) = true := decide_eq_true hge
            go_wp2_with fail
            go_ret
            exact ⟨rfl, B4.out.alloc B4.out.size _⟩
          · have hd3 : decide ((m.memory.length : Int) ≤ ix) = false := decide_eq_false hge
            by_cases hin : nm.data.toList ∈ seen
            · rw [if_pos (.inr hin)] at hgo
              subst hgo
              have hv1 : v = 1 := by have := HV.out; rw [if_pos hin] at this; exact this.symm
              subst hv1
              go_wp2_with fail
              go_ret
              exact ⟨rfl, B4.out.alloc B4.out.size _⟩
            · rw [if_neg (by rintro (h | h); exact hge h; exact hin h)] at hgo
              have hv1 : v = 0 := by have := HV.out; rw [if_neg hin] at this; exact this.symm
              subst hv1
              have HGO2 := Lib.hid hgo
              clear hgo
              go_wp2_with fail
              go_roundw
              case rel => exact ⟨⟨j + 1, n + 1, _, _, by have := HN.out; omega, by go_num, by omega, HOWN.out.alloc _, metOk_put HOK.out HNM.out, HGO2.out, B4.out.alloc B4.out.size _⟩, K4.out.trans (Keeps.alloc _ _ _) (fun j hj => .inl hj)⟩
              case measure => simp [intOf]; omega
        · have hmn : manyE m 3 = (m.globals.length : Int) := rfl
          have hgo := HGO.out
          rw [hmn] at hgo
          by_cases hge : (m.globals.length : Int) ≤ ix
          · rw [if_pos (.inl hge)] at hgo
            subst hgo
            have hd3 : decide ((m.globals.length : Int) ≤ ix) = true := decide_eq_true hge
            go_wp2_with fail
            go_ret
            exact ⟨rfl, B4.out.alloc B4.out.size _⟩
          · have hd3 : decide ((m.globals.length : Int) ≤ ix) = false := decide_eq_false hge
            by_cases hin : nm.data.toList ∈ seen
            · rw [if_pos (.inr hin)] at hgo
              subst hgo
              have hv1 : v = 1 := by have := HV.out; rw [if_pos hin] at this; exact this.symm
              subst hv1
              go_wp2_with fail
              go_ret
              exact ⟨rfl, B4.out.alloc B4.out.size _⟩
            · rw [if_neg (by rintro (h | h); exact hge h; exact hin h)] at hgo
              have hv1 : v = 0 := by have := HV.out; rw [if_neg hin] at this; exact this.symm
              subst hv1
              have HGO2 := Lib.hid hgo
              clear hgo
              go_wp2_with fail
              go_roundw
              case rel => exact ⟨⟨j + 1, n + 1, _, _, by have := HN.out; omega, by go_num, by omega, HOWN.out.alloc _, metOk_put HOK.out HNM.out, HGO2.out, B4.out.alloc B4.out.size _⟩, K4.out.trans (Keeps.alloc _ _ _) (fun j hj => .inl hj)⟩
              case measure => simp [intOf]; omega
    · obtain rfl : j = N := by omega
      have hd2 : decide (j < j) = false := by simp
      have hend : true = R := by
        rw [List.drop_of_length_le (by have := HN.out; omega)] at hgo
        exact hgo
      subst hend
      have BJ := Lib.hid hb
      clear hb hgo hmap
      go_wp2_with fail
      go_ret
      exact ⟨rfl, BJ.out⟩
end Go.Proofs.YtmbgemcddjailaaGreatDoor.Vld

/- VldV: What valid.starts answers. No condition beyond what each theorem names. -/
namespace Go.Proofs.YtmbgemcddjailaaGreatDoor.Vld
open Go.RowKit Go.Maps Go.Proofs.YtmbgemcddjailaaGreatDoor.Op Go.Proofs.YtmbgemcddjailaaGreatDoor.Mod
set_option linter.unusedVariables false
theorem startsB_neg {m : ModP} (h : m.start < 0) : startsB m = true := by unfold startsB; rw [if_pos h]
theorem startsB_out {m : ModP} {n : Nat} (h : m.start = (n : Int)) (hn : m.funcs.length ≤ n) : startsB m = false := by
  unfold startsB
  rw [if_neg (by omega), h, Int.toNat_natCast, List.getElem?_eq_none hn]
theorem startsB_in {m : ModP} {n : Nat} (h : m.start = (n : Int)) {f : FuncP} (hf : m.funcs[n]? = some f) {i : Nat} (hi : f.ty = (i : Int)) : startsB m = match m.types[i]? with | none => false | some t => t.params.data.toList.isEmpty && t.results.data.toList.isEmpty := by
  unfold startsB
  rw [if_neg (by omega), h, Int.toNat_natCast, hf]
  dsimp only
  rw [if_pos (by omega), hi, Int.toNat_natCast]
  cases m.types[i]? <;> rfl
set_option maxRecDepth 100000 in
set_option maxHeartbeats 2000000 in
theorem starts_any (t fv me g e : Value) (st : Int) (d : Value) (m : ModP) (w : World) (hM : ModAt w t fv me g e st d m) (hF : ∀ x ∈ m.funcs, 0 ≤ x.ty) :
    Calls Tryz.prog 31 #[modV t fv me g e st d] w fun en w' => en = .returned (.bool (startsB m)) ∧ Below w.heap.size w w' := by
  obtain ⟨ta, tc, htv, htl, hta⟩ := hM.types.form
  obtain ⟨fa, fc, hfv, hfl, hfa⟩ := hM.funcs.form
  have hst := hM.start
  subst htv hfv
  obtain ⟨T, hT⟩ : ∃ T, m.types.length = T := ⟨_, rfl⟩
  obtain ⟨F, hFl⟩ : ∃ F, m.funcs.length = F := ⟨_, rfl⟩
  unfold modV
  rw [hT, hFl]
  have B1 := Lib.hid (show Below w.heap.size w (w.alloc (.cells #[.slice ta T tc, .slice fa F fc, me, g, e, .int .i64 st, d] 41)) from (Below.refl _ _).alloc (Nat.le_refl _) _)
  by_cases hneg : st < 0
  · rw [startsB_neg (by rw [← hst]; exact hneg)]
    have hd : decide (st < 0) = true := decide_eq_true hneg
    clear hM hta hfa hF hst
    go_enter Tryz.func31, Tryz.ntmps31
    go_wp2_with fail
    go_ret
    exact ⟨rfl, B1.out⟩
  · obtain ⟨n, hn⟩ : ∃ n : Nat, st = (n : Int) := ⟨st.toNat, by omega⟩
    subst hn
    have hd : decide ((n : Int) < 0) = false := decide_eq_false (by omega)
    by_cases hlt : n < F
    · obtain ⟨f, hf⟩ : ∃ f, m.funcs[n]? = some f := ⟨_, List.getElem?_eq_getElem (by omega)⟩
      obtain ⟨i, hi⟩ : ∃ i : Nat, f.ty = (i : Int) := ⟨f.ty.toNat, by have := hF f (List.mem_of_getElem? hf); omega⟩
      rw [startsB_in hst.symm hf hi]
      obtain ⟨r, ⟨cv, hr, _⟩, _, b, off, hla, hb, hc⟩ := hfa n f hf
      rw [hr, hi] at hc
      have d0 : w.cell? ⟨b, off + n * 3, none⟩ = some (.int .i64 (i : Int)) := hc 0 _ rfl
      subst hla
      have hd1 : decide (F ≤ n) = false := decide_eq_false (by omega)
      have hi0 : (0 : Int) ≤ (n : Int) := by omega
      have hi1 : (n : Int) < (F : Int) := by omega
      by_cases hti : i < T
      · obtain ⟨ft, hft⟩ : ∃ ft, m.types[i]? = some ft := ⟨_, List.getElem?_eq_getElem (by omega)⟩
        rw [hft]
        dsimp only
        obtain ⟨r2, hr2, _, b2, off2, hla2, hb2, hc2⟩ := hta i ft hft
        rw [hr2.1] at hc2
        have q0 : w.cell? ⟨b2, off2 + i * 2, none⟩ = some (.string ft.params) := hc2 0 _ rfl
        have q1 : w.cell? ⟨b2, off2 + i * 2 + 1, none⟩ = some (.string ft.results) := hc2 1 _ rfl
        subst hla2
        have hd2 : decide (i < T) = true := decide_eq_true hti
        have hj0 : (0 : Int) ≤ (i : Int) := by omega
        have hj1 : (i : Int) < (T : Int) := by omega
        have e1 : ft.params.toList.isEmpty = ft.params.data.toList.isEmpty := by rw [ByteArray.toList_eq]
        have e2 : ft.results.toList.isEmpty = ft.results.data.toList.isEmpty := by rw [ByteArray.toList_eq]
        clear hM hta hfa hF hst hr hc hr2 hc2 hf hft
        go_enter Tryz.func31, Tryz.ntmps31
        go_wp2_with fail
        all_goals go_ret
        all_goals exact ⟨by simp [*], B1.out⟩
      · rw [List.getElem?_eq_none (by omega)]
        have hd2 : decide (i < T) = false := decide_eq_false (by omega)
        clear hM hta hfa hF hst hr hc hf
        go_enter Tryz.func31, Tryz.ntmps31
        go_wp2_with fail
        go_ret
        exact ⟨rfl, B1.out⟩
    · rw [startsB_out hst.symm (by omega)]
      have hd1 : decide (F ≤ n) = true := decide_eq_true (by omega)
      clear hM hta hfa hF hst
      go_enter Tryz.func31, Tryz.ntmps31
      go_wp2_with fail
      go_ret
      exact ⟨rfl, B1.out⟩
def memBad (x : MemP) : Bool := decide (65536 < x.least) || (decide (65536 < x.most) || (decide (0 ≤ x.most) && decide (x.most < x.least)))
def e3 (m : ModP) : Int := if m.funcs.all (fun x => validF m x) then 0 else 4
def e2 (m : ModP) : Int := if m.memory.any memBad then 4 else e3 m
def badB (m : ModP) : Bool := decide (1 < m.memory.length) || ((m.memory.isEmpty && decide (0 < m.data.length)) || (!exportsB m || !startsB m))
def e1 (m : ModP) : Int := if badB m then 4 else e2 m
def moduleE (m : ModP) : Int := if rightM m = false then 1 else if m.funcs.any (fun x => decide (256 < nestP x.code)) then 5 else e1 m
/-- the memories, the functions: one after another -/
def RelF (w : World) (P : Nat → Prop) (N : Nat) (i : Value) (wr : World) : Prop := ∃ j : Nat, j ≤ N ∧ i = .int .i64 (j : Int) ∧ (∀ k, k < j → P k) ∧ Below w.heap.size w wr
set_option maxRecDepth 100000 in
set_option maxHeartbeats 8000000 in
theorem module_any (t fv me g e : Value) (st : Int) (d : Value) (m : ModP) (w : World) (hM : ModAt w t fv me g e st d m) (hE : MEnv w) (hl : ∀ x ∈ m.funcs, x.code.length ≤ 1000000) :
    Calls Tryz.prog 13 #[modV t fv me g e st d] w fun en w' => en = .returned (.int .i64 (moduleE m)) ∧ Below w.heap.size w w' := by
  obtain ⟨ta, tc, htv, _, _⟩ := hM.types.form
  obtain ⟨fa, fc, hfv, _, hfa⟩ := hM.funcs.form
  obtain ⟨ma, mc, hmv, _, hma⟩ := hM.memory.form
  obtain ⟨ga, gc, hgv, _, _⟩ := hM.globals.form
  obtain ⟨ea, ec, hev, _, hea⟩ := hM.exports.form
  obtain ⟨da, dc, hdv, _, _⟩ := hM.data.form
  subst htv hfv hmv hgv hev hdv
  have hnames : ∀ x ∈ m.exports, x.name.size ≤ maxLen := fun x hx => by
    obtain ⟨i, hi⟩ := List.getElem?_of_mem hx
    obtain ⟨r, hr, _⟩ := hea i x hi
    exact hr.2
  have HR := Lib.hid (fun (W : World) (hb : Below w.heap.size w W) => rightM_any _ _ _ _ _ _ _ m W (hE.later hb) (hM.later hb))
  have HM := Lib.hid hM
  have HE := Lib.hid hE
  have HL := Lib.hid hl
  have HNM := Lib.hid hnames
  have HFA := Lib.hid hfa
  have HMA := Lib.hid hma
  unfold modV at HR ⊢
  obtain ⟨Q, hQ⟩ : ∃ Q, rightM m = Q := ⟨_, rfl⟩
  rw [hQ] at HR
  have HQ := Lib.hid hQ
  obtain ⟨T, hT⟩ : ∃ T, m.types.length = T := ⟨_, rfl⟩
  obtain ⟨F, hF⟩ : ∃ F, m.funcs.length = F := ⟨_, rfl⟩
  obtain ⟨M, hMl⟩ : ∃ M, m.memory.length = M := ⟨_, rfl⟩
  obtain ⟨G, hG⟩ : ∃ G, m.globals.length = G := ⟨_, rfl⟩
  obtain ⟨X, hX⟩ : ∃ X, m.exports.length = X := ⟨_, rfl⟩
  obtain ⟨D, hD⟩ : ∃ D, m.data.length = D := ⟨_, rfl⟩
  have HF := Lib.hid hF
  have HML := Lib.hid hMl
  have HD := Lib.hid hD
  rw [hT, hF, hMl, hG, hX, hD] at HR ⊢
  have HEX := Lib.hid (fun (W : World) (hb : Below w.heap.size w W) (h1 : ∀ x ∈ m.exports, x.kind = 0 ∨ x.kind = 2 ∨ x.kind = 3) (h2 : m.exports.length ≤ 1000000) => (show Calls Tryz.prog 30 #[.agg #[.slice ta T tc, .slice fa F fc, .slice ma M mc, .slice ga G gc, .slice ea X ec, .int .i64 st, .slice da D dc]] W fun en w' => en = .returned (.bool (exportsB m)) ∧ Below W.heap.size W w' from by
    have h := exports_any _ _ _ _ _ _ _ m W (HM.out.later hb) h1 h2 HNM.out
    unfold modV at h
    rw [hT, hF, hMl, hG, hX, hD] at h
    exact h))
  have HST := Lib.hid (fun (W : World) (hb : Below w.heap.size w W) (h1 : ∀ x ∈ m.funcs, 0 ≤ x.ty) => (show Calls Tryz.prog 31 #[.agg #[.slice ta T tc, .slice fa F fc, .slice ma M mc, .slice ga G gc, .slice ea X ec, .int .i64 st, .slice da D dc]] W fun en w' => en = .returned (.bool (startsB m)) ∧ Below W.heap.size W w' from by
    have h := starts_any _ _ _ _ _ _ _ m W (HM.out.later hb) h1
    unfold modV at h
    rw [hT, hF, hMl, hG, hX, hD] at h
    exact h))
  have HVA := Lib.hid (fun (W : World) (hb : Below w.heap.size w W) (h2 : TypesOk m) (x : FuncP) (cv : Value) (hc : CodeAt W cv x.code) (h1 : FuncOk x) => (show Calls Tryz.prog 32 #[.agg #[.slice ta T tc, .slice fa F fc, .slice ma M mc, .slice ga G gc, .slice ea X ec, .int .i64 st, .slice da D dc], .agg #[.int .i64 x.ty, .string x.locals, cv]] W fun en w' => en = .returned (.bool (validF m x)) ∧ Below W.heap.size W w' from by
    have h := valid_any _ _ _ _ _ _ _ m W (HM.out.later hb) (opEnv_later HE.out.op hb) h2 x cv hc h1
    unfold modV at h
    rw [hT, hF, hMl, hG, hX, hD] at h
    exact h))
  unfold moduleE
  rw [hQ]
  clear hM hE hl hnames hfa hma hea hQ hT hF hMl hG hX hD
  cases Q
  · rw [if_pos rfl]
    go_enter Tryz.func13, Tryz.ntmps13
    go_wp2_with fail
    obtain ⟨W0, hW0⟩ : ∃ W0, w.alloc (.cells #[.slice ta T tc, .slice fa F fc, .slice ma M mc, .slice ga G gc, .slice ea X ec, .int .i64 st, .slice da D dc] 41) = W0 := ⟨_, rfl⟩
    rw [hW0]
    have b0 : Below w.heap.size w W0 := by rw [← hW0]; exact (Below.refl _ _).alloc (Nat.le_refl _) _
    refine (HR.out W0 b0).mono ?_
    rintro en W1 ⟨rfl, b1⟩
    have B1 := Lib.hid (b0.trans (b1.mono b0.size))
    clear b0 b1 hW0
    go_wp2_with fail
    go_ret
    exact ⟨rfl, B1.out⟩
  · rw [if_neg (by decide)]
    have hfn := rightM_funcs HQ.out
    have hty : TypesOk m := typesOk_of (rightM_types HQ.out)
    have hexs : (∀ x ∈ m.exports, x.kind = 0 ∨ x.kind = 2 ∨ x.kind = 3) ∧ m.exports.length ≤ 1000000 := by
      have h := HQ.out
      unfold rightM allB at h
      simp only [Bool.and_eq_true, decide_eq_true_eq] at h
      obtain ⟨_, _, _, _, _, ⟨h1, h2⟩, _⟩ := h
      refine ⟨fun x hx => ?_, by omega⟩
      have h3 := List.all_eq_true.1 h2 x hx
      unfold rightExp at h3
      simp only [Bool.and_eq_true, Bool.or_eq_true, beq_iff_eq] at h3
      exact h3.2.1
    have hF0 : ∀ x ∈ m.funcs, 0 ≤ x.ty := fun x hx => (funcOk_of (hfn x hx) (HL.out x hx)).ty
    have hfok : ∀ x ∈ m.funcs, FuncOk x := fun x hx => funcOk_of (hfn x hx) (HL.out x hx)
    have HEX2 := Lib.hid (fun (W : World) (hb : Below w.heap.size w W) => HEX.out W hb hexs.1 hexs.2)
    have HST2 := Lib.hid (fun (W : World) (hb : Below w.heap.size w W) => HST.out W hb hF0)
    have HVA2 := Lib.hid (fun (W : World) (hb : Below w.heap.size w W) (x : FuncP) (hx : x ∈ m.funcs) (cv : Value) (hc : CodeAt W cv x.code) => HVA.out W hb hty x cv hc (hfok x hx))
    clear HEX HST HVA hfn hty hexs hF0 hfok
    obtain ⟨R, hR⟩ : ∃ R : Int, (if m.funcs.any (fun x => decide (256 < nestP x.code)) then 5 else e1 m) = R := ⟨_, rfl⟩
    rw [hR]
    have HRES := Lib.hid hR
    clear hR
    go_enter Tryz.func13, Tryz.ntmps13
    go_wp2_with fail
    obtain ⟨W0, hW0⟩ : ∃ W0, w.alloc (.cells #[.slice ta T tc, .slice fa F fc, .slice ma M mc, .slice ga G gc, .slice ea X ec, .int .i64 st, .slice da D dc] 41) = W0 := ⟨_, rfl⟩
    rw [hW0]
    have b0 : Below w.heap.size w W0 := by rw [← hW0]; exact (Below.refl _ _).alloc (Nat.le_refl _) _
    have n0 : W0.heap[w.heap.size]? = some (.cells #[.slice ta T tc, .slice fa F fc, .slice ma M mc, .slice ga G gc, .slice ea X ec, .int .i64 st, .slice da D dc] 41 (0, 0)) := by rw [← hW0]; exact heap_alloc_new w _
    refine (HR.out W0 b0).mono ?_
    rintro en W1 ⟨rfl, b1⟩
    have B1 := Lib.hid (b0.trans (b1.mono b0.size))
    have N1 := Lib.hid (block_later n0 b1)
    obtain ⟨p0, p1, p2, p3, p4, p5, p6⟩ := mod_cells (block_later n0 b1)
    clear b0 b1 hW0 n0
    go_wp2_with fail
    go_loopw [15] (fun ii wr => RelF W1 (fun k => ∀ x, m.funcs[k]? = some x → nestP x.code ≤ 256) F ii wr) (fun ii _ => F - (intOf ii).toNat)
    case atStart => exact ⟨0, Nat.zero_le _, rfl, fun k hk => by omega, Below.refl _ _⟩
    case round =>
      obtain ⟨j, hj, rfl, hall, hb1⟩ := hrel
      obtain ⟨Wj, rfl⟩ : ∃ Wj, Wj = wr := ⟨_, rfl⟩
      have BW := Lib.hid (B1.out.trans (hb1.mono B1.out.size))
      have NJ := Lib.hid (block_later N1.out hb1)
      by_cases hlt : j < F
      · obtain ⟨xi, hxi⟩ : ∃ xi, m.funcs[j]? = some xi := ⟨_, List.getElem?_eq_getElem (by have := HF.out; omega)⟩
        obtain ⟨rr, ⟨cv, hrr, hcv, _, _⟩, _, bc, offc, hcaa, hbc, hcc⟩ := HFA.out j xi hxi
        subst hcaa
        obtain ⟨ca, cc, hcf, _, _⟩ := hcv.form
        subst hcf
        rw [hrr] at hcc
        have e0 : Wj.cell? ⟨bc, offc + j * 3, none⟩ = some (.int .i64 xi.ty) := cell_later BW.out (hcc 0 _ rfl)
        have e1 : Wj.cell? ⟨bc, offc + j * 3 + 1, none⟩ = some (.string xi.locals) := cell_later BW.out (hcc 1 _ rfl)
        have e2 : Wj.cell? ⟨bc, offc + j * 3 + 2, none⟩ = some (.slice ca xi.code.length cc) := cell_later BW.out (hcc 2 _ rfl)
        have hd2 : decide (j < F) = true := decide_eq_true hlt
        have hi0 : (0 : Int) ≤ (j : Int) := by omega
        have hi1 : (j : Int) < (F : Int) := by omega
        have hmem := List.mem_of_getElem? hxi
        have hwj : IntKind.i64.wrap ((j : Int) + 1) = (j : Int) + 1 := IntWalk.i64_in _ (by
          have h1 := HM.out.funcs.form
          obtain ⟨_, _, _, h2, _⟩ := h1
          have := HF.out
          omega)
        have HXI := Lib.hid hxi
        have HMEM := Lib.hid hmem
        have HCV := Lib.hid hcv
        have HALL := Lib.hid hall
        have HB1 := Lib.hid hb1
        have HNE := Lib.hid (fun (W : World) (hb : Below w.heap.size w W) => nest_any _ xi.code W (hcv.later lasts_ins hb) (HL.out xi hmem))
        obtain ⟨ns, hns⟩ : ∃ ns, nestP xi.code = ns := ⟨_, rfl⟩
        rw [hns] at HNE
        have HNS := Lib.hid hns
        clear hxi hrr hcc hmem hcv hall hb1 hns
        go_wp2_with fail
        obtain ⟨W2, hW2⟩ : ∃ W2, Wj.alloc (.cells #[.int .i64 xi.ty, .string xi.locals, .slice ca xi.code.length cc] 32) = W2 := ⟨_, rfl⟩
        rw [hW2]
        have b2 : Below Wj.heap.size Wj W2 := by rw [← hW2]; exact (Below.refl _ _).alloc (Nat.le_refl _) _
        have B2 := Lib.hid (HB1.out.trans (b2.mono HB1.out.size))
        refine (HNE.out W2 (B1.out.trans (B2.out.mono B1.out.size))).mono ?_
        rintro en W3 ⟨rfl, b3⟩
        have B3 := Lib.hid (B2.out.trans (b3.mono B2.out.size))
        clear hW2 b2 b3 e0 e1 e2
        by_cases hgt : 256 < ns
        · have hd3 : decide (256 < ns) = true := decide_eq_true hgt
          have hr5 : R = 5 := by
            rw [← HRES.out, if_pos]
            rw [List.any_eq_true]
            exact ⟨xi, HMEM.out, by rw [HNS.out]; exact hd3⟩
          subst hr5
          go_wp2_with fail
          go_ret
          exact ⟨rfl, B1.out.trans (B3.out.mono B1.out.size)⟩
        · have hd3 : decide (256 < ns) = false := decide_eq_false hgt
          go_wp2_with fail
          go_roundw
          case rel => exact ⟨j + 1, by omega, by go_num, fun k hk => by
            by_cases hkj : k = j
            · subst hkj
              intro x hx
              rw [HXI.out] at hx
              obtain rfl := Option.some.inj hx
              rw [HNS.out]
              omega
            · exact HALL.out k (by omega), B3.out⟩
          case measure => simp [intOf]; omega
      · obtain rfl : F = j := by omega
        have hd2 : decide (F < F) = false := by simp
        have hr1 : e1 m = R := by
          rw [← HRES.out, if_neg]
          rw [List.any_eq_true]
          rintro ⟨x, hx, hx2⟩
          obtain ⟨i, hi⟩ := List.getElem?_of_mem hx
          have := hall i (by have := (List.getElem?_eq_some_iff.1 hi).1; have := HF.out; omega) x hi
          simp at hx2
          omega
        have HR1 := Lib.hid hr1
        obtain ⟨p0, p1, p2, p3, p4, p5, p6⟩ := mod_cells NJ.out
        clear hall hb1 hr1 HRES
        have four : badB m = true → R = 4 := fun h1 => by rw [← HR1.out]; unfold e1; rw [h1]; rfl
        have FOUR := Lib.hid four
        clear four
        by_cases hM1 : 1 < M
        · have hd3 : decide (1 < M) = true := decide_eq_true hM1
          have hr4 : R = 4 := FOUR.out (by unfold badB; rw [HML.out, hd3]; rfl)
          subst hr4
          go_wp2_with fail
          go_ret
          exact ⟨rfl, BW.out⟩
        · have hd3 : decide (1 < M) = false := decide_eq_false hM1
          by_cases hM0 : M = 0 ∧ 0 < D
          · obtain ⟨rfl, hD0⟩ := hM0
            have hd4 : decide (0 < D) = true := decide_eq_true hD0
            have hem : m.memory.isEmpty = true := by rw [List.isEmpty_iff]; exact List.eq_nil_of_length_eq_zero HML.out
            have hr4 : R = 4 := FOUR.out (by unfold badB; rw [HML.out, hd3, hem, HD.out, hd4]; rfl)
            subst hr4
            go_wp2_with fail
            go_ret
            exact ⟨rfl, BW.out⟩
          · have hbad : badB m = (!exportsB m || !startsB m) := by
              unfold badB
              rw [HML.out, hd3, HD.out]
              by_cases hm0 : M = 0
              · have : decide (0 < D) = false := decide_eq_false (fun h => hM0 ⟨hm0, h⟩)
                rw [this]
                simp
              · have hem : m.memory.isEmpty = false := by
                  rw [List.isEmpty_eq_false_iff]
                  intro h
                  have := HML.out
                  rw [h] at this
                  exact hm0 this.symm
                rw [hem]
                simp
            have HBAD := Lib.hid hbad
            obtain ⟨xb, hxb⟩ : ∃ xb, exportsB m = xb := ⟨_, rfl⟩
            obtain ⟨sb, hsb⟩ : ∃ sb, startsB m = sb := ⟨_, rfl⟩
            rw [hxb] at HEX2
            rw [hsb] at HST2
            rw [hxb, hsb] at HBAD
            clear hbad hxb hsb
            have hcase : ((M : Int) == 0) = false ∨ (M = 0 ∧ D = 0) := by
              by_cases hm0 : M = 0
              · exact .inr ⟨hm0, by have := hM0; omega⟩
              · exact .inl (beq_eq_false_iff_ne.2 (by omega))
            clear hM0
            rcases hcase with hmz | ⟨rfl, rfl⟩
            · go_wp2_with fail
              refine (HEX2.out Wj BW.out).mono ?_
              rintro en W2 ⟨rfl, b2⟩
              have B2 := Lib.hid (BW.out.trans (b2.mono BW.out.size))
              have N2 := Lib.hid (block_later NJ.out b2)
              obtain ⟨p0, p1, p2, p3, p4, p5, p6⟩ := mod_cells N2.out
              clear b2
              cases xb
              · have hr4 : R = 4 := FOUR.out HBAD.out
                subst hr4
                go_wp2_with fail
                go_ret
                exact ⟨rfl, B2.out⟩
              · go_wp2_with fail
                refine (HST2.out W2 B2.out).mono ?_
                rintro en W3 ⟨rfl, b3⟩
                have B3 := Lib.hid (B2.out.trans (b3.mono B2.out.size))
                have N3 := Lib.hid (block_later N2.out b3)
                obtain ⟨p0, p1, p2, p3, p4, p5, p6⟩ := mod_cells N3.out
                clear b3
                cases sb
                · have hr4 : R = 4 := FOUR.out HBAD.out
                  subst hr4
                  go_wp2_with fail
                  go_ret
                  exact ⟨rfl, B3.out⟩
                · have hr2 : e2 m = R := by rw [← HR1.out]; unfold e1; rw [HBAD.out]; rfl
                  have HR2 := Lib.hid hr2
                  clear hr2
                  go_wp2_with fail
                  go_loopw [53] (fun ii wr => RelF W3 (fun k => ∀ x, m.memory[k]? = some x → memBad x = false) M ii wr) (fun ii _ => M - (intOf ii).toNat)
                  case atStart => exact ⟨0, Nat.zero_le _, rfl, fun k hk => by omega, Below.refl _ _⟩
                  case round =>
                    obtain ⟨j, hj, rfl, hall, hb1⟩ := hrel
                    obtain ⟨Wj, rfl⟩ : ∃ Wj, Wj = wr := ⟨_, rfl⟩
                    have BW := Lib.hid (B3.out.trans (hb1.mono B3.out.size))
                    have NJ := Lib.hid (block_later N3.out hb1)
                    by_cases hlt : j < M
                    · obtain ⟨xi, hxi⟩ : ∃ xi, m.memory[j]? = some xi := ⟨_, List.getElem?_eq_getElem (by have := HML.out; omega)⟩
                      obtain ⟨rr, hrr, _, bc, offc, hcaa, hbc, hcc⟩ := HMA.out j xi hxi
                      subst hcaa
                      have hrr2 : rr = xi.cells := hrr
                      rw [hrr2] at hcc
                      obtain ⟨lo, mo⟩ := xi
                      have e0 : Wj.cell? ⟨bc, offc + j * 2, none⟩ = some (.int .i64 lo) := cell_later BW.out (hcc 0 _ rfl)
                      have e1 : Wj.cell? ⟨bc, offc + j * 2 + 1, none⟩ = some (.int .i64 mo) := cell_later BW.out (hcc 1 _ rfl)
                      have hd2 : decide (j < M) = true := decide_eq_true hlt
                      have hi0 : (0 : Int) ≤ (j : Int) := by omega
                      have hi1 : (j : Int) < (M : Int) := by omega
                      have hwj : IntKind.i64.wrap ((j : Int) + 1) = (j : Int) + 1 := IntWalk.i64_in _ (by
                        obtain ⟨_, _, _, h2, _⟩ := HM.out.memory.form
                        have := HML.out
                        omega)
                      have HXI := Lib.hid hxi
                      have HALL := Lib.hid hall
                      have HB1 := Lib.hid (show Below W3.heap.size W3 (Wj.alloc (.cells #[.int .i64 lo, .int .i64 mo] 55)) from hb1.alloc hb1.size _)
                      have bad : memBad ⟨lo, mo⟩ = true → R = 4 := fun h => by
                        rw [← HR2.out]
                        unfold e2
                        rw [if_pos]
                        rw [List.any_eq_true]
                        exact ⟨_, List.mem_of_getElem? hxi, h⟩
                      have BAD := Lib.hid bad
                      have good : memBad ⟨lo, mo⟩ = false → RelF W3 (fun k => ∀ x, m.memory[k]? = some x → memBad x = false) M (.int .i64 ((j : Int) + 1)) (Wj.alloc (.cells #[.int .i64 lo, .int .i64 mo] 55)) := fun h => ⟨j + 1, by omega, by congr 1, fun k hk => by
                        by_cases hkj : k = j
                        · subst hkj
                          intro x hx
                          rw [HXI.out] at hx
                          obtain rfl := Option.some.inj hx
                          exact h
                        · exact HALL.out k (by omega), HB1.out⟩
                      have GOOD := Lib.hid good
                      clear hxi hrr hrr2 hcc hall hb1 bad good
                      by_cases h1 : 65536 < lo
                      · have g1 : decide (65536 < lo) = true := decide_eq_true h1
                        have hr4 : R = 4 := BAD.out (by unfold memBad; dsimp only; rw [g1]; rfl)
                        subst hr4
                        go_wp2_with fail
                        go_ret
                        exact ⟨rfl, B3.out.trans (HB1.out.mono B3.out.size)⟩
                      have g1 : decide (65536 < lo) = false := decide_eq_false h1
                      by_cases h2 : 65536 < mo
                      · have g2 : decide (65536 < mo) = true := decide_eq_true h2
                        have hr4 : R = 4 := BAD.out (by unfold memBad; dsimp only; rw [g1, g2]; rfl)
                        subst hr4
                        go_wp2_with fail
                        go_ret
                        exact ⟨rfl, B3.out.trans (HB1.out.mono B3.out.size)⟩
                      have g2 : decide (65536 < mo) = false := decide_eq_false h2
                      by_cases h3 : 0 ≤ mo
                      · have g3 : decide (0 ≤ mo) = true := decide_eq_true h3
                        by_cases h4 : mo < lo
                        · have g4 : decide (mo < lo) = true := decide_eq_true h4
                          have hr4 : R = 4 := BAD.out (by unfold memBad; dsimp only; rw [g1, g2, g3, g4]; rfl)
                          subst hr4
                          go_wp2_with fail
                          go_ret
                          exact ⟨rfl, B3.out.trans (HB1.out.mono B3.out.size)⟩
                        · have g4 : decide (mo < lo) = false := decide_eq_false h4
                          have hg := Lib.hid (GOOD.out (by unfold memBad; dsimp only; rw [g1, g2, g3, g4]; rfl))
                          go_wp2_with fail
                          go_roundw
                          case rel => exact hg.out
                          case measure => simp [intOf]; omega
                      · have g3 : decide (0 ≤ mo) = false := decide_eq_false h3
                        have hg := Lib.hid (GOOD.out (by unfold memBad; dsimp only; rw [g1, g2, g3]; rfl))
                        go_wp2_with fail
                        go_roundw
                        case rel => exact hg.out
                        case measure => simp [intOf]; omega
                    · obtain rfl : M = j := by omega
                      have hd5 : decide (M < M) = false := by simp
                      have hr3 : e3 m = R := by
                        rw [← HR2.out]
                        unfold e2
                        rw [if_neg]
                        rw [List.any_eq_true]
                        rintro ⟨x, hx, hx2⟩
                        obtain ⟨i, hi⟩ := List.getElem?_of_mem hx
                        have := hall i (by have := (List.getElem?_eq_some_iff.1 hi).1; have := HML.out; omega) x hi
                        rw [this] at hx2
                        cases hx2
                      have HR3 := Lib.hid hr3
                      obtain ⟨p0, p1, p2, p3, p4, p5, p6⟩ := mod_cells NJ.out
                      clear hall hb1 hr3
                      go_wp2_with fail
                      go_loopw [81] (fun ii wr => RelF Wj (fun k => ∀ x, m.funcs[k]? = some x → validF m x = true) F ii wr) (fun ii _ => F - (intOf ii).toNat)
                      case atStart => exact ⟨0, Nat.zero_le _, rfl, fun k hk => by omega, Below.refl _ _⟩
                      case round =>
                        obtain ⟨j2, hj2, rfl, hall, hb1⟩ := hrel
                        obtain ⟨Wk, rfl⟩ : ∃ Wk, Wk = wr := ⟨_, rfl⟩
                        have BK := Lib.hid (BW.out.trans (hb1.mono BW.out.size))
                        have NK := Lib.hid (block_later NJ.out hb1)
                        by_cases hlt : j2 < F
                        · obtain ⟨xi, hxi⟩ : ∃ xi, m.funcs[j2]? = some xi := ⟨_, List.getElem?_eq_getElem (by have := HF.out; omega)⟩
                          obtain ⟨rr, ⟨cv, hrr, hcv, _, _⟩, _, bc, offc, hcaa, hbc, hcc⟩ := HFA.out j2 xi hxi
                          subst hcaa
                          obtain ⟨ca, cc, hcf, _, _⟩ := hcv.form
                          subst hcf
                          rw [hrr] at hcc
                          have e0 : Wk.cell? ⟨bc, offc + j2 * 3, none⟩ = some (.int .i64 xi.ty) := cell_later BK.out (hcc 0 _ rfl)
                          have e1 : Wk.cell? ⟨bc, offc + j2 * 3 + 1, none⟩ = some (.string xi.locals) := cell_later BK.out (hcc 1 _ rfl)
                          have e2 : Wk.cell? ⟨bc, offc + j2 * 3 + 2, none⟩ = some (.slice ca xi.code.length cc) := cell_later BK.out (hcc 2 _ rfl)
                          have hd6 : decide (j2 < F) = true := decide_eq_true hlt
                          have hi0 : (0 : Int) ≤ (j2 : Int) := by omega
                          have hi1 : (j2 : Int) < (F : Int) := by omega
                          have hmem := List.mem_of_getElem? hxi
                          have hwj : IntKind.i64.wrap ((j2 : Int) + 1) = (j2 : Int) + 1 := IntWalk.i64_in _ (by
                            obtain ⟨_, _, _, h2, _⟩ := HM.out.funcs.form
                            have := HF.out
                            omega)
                          have HXI := Lib.hid hxi
                          have HMEM := Lib.hid hmem
                          have HALL := Lib.hid hall
                          have HB1 := Lib.hid hb1
                          have HCV := Lib.hid (fun (W : World) (hb : Below w.heap.size w W) => HVA2.out W hb xi hmem _ (hcv.later lasts_ins hb))
                          obtain ⟨vb, hvb⟩ : ∃ vb, validF m xi = vb := ⟨_, rfl⟩
                          rw [hvb] at HCV
                          have HVB := Lib.hid hvb
                          obtain ⟨p0, p1, p2, p3, p4, p5, p6⟩ := mod_cells NK.out
                          have hlk := (Array.getElem?_eq_some_iff.1 NK.out).1
                          clear hxi hrr hcc hmem hcv hall hb1 hvb
                          go_wp2_with fail
                          obtain ⟨W5, hW5⟩ : ∃ W5, Wk.alloc (.cells #[.int .i64 xi.ty, .string xi.locals, .slice ca xi.code.length cc] 32) = W5 := ⟨_, rfl⟩
                          rw [hW5]
                          have b5 : Below Wk.heap.size Wk W5 := by rw [← hW5]; exact (Below.refl _ _).alloc (Nat.le_refl _) _
                          have B5 := Lib.hid (HB1.out.trans (b5.mono HB1.out.size))
                          refine (HCV.out W5 (BW.out.trans (B5.out.mono BW.out.size))).mono ?_
                          rintro en W6 ⟨rfl, b6⟩
                          have B6 := Lib.hid (B5.out.trans (b6.mono B5.out.size))
                          clear hW5 b5 b6 e0 e1 e2
                          cases vb
                          · have hr4 : R = 4 := by
                              rw [← HR3.out]
                              unfold e3
                              rw [if_neg]
                              rw [List.all_eq_true]
                              intro h
                              have := h xi HMEM.out
                              rw [HVB.out] at this
                              cases this
                            subst hr4
                            go_wp2_with fail
                            go_ret
                            exact ⟨rfl, BW.out.trans (B6.out.mono BW.out.size)⟩
                          · go_wp2_with fail
                            go_roundw
                            case rel => exact ⟨j2 + 1, by omega, by go_num, fun k hk => by
                              by_cases hkj : k = j2
                              · subst hkj
                                intro x hx
                                rw [HXI.out] at hx
                                obtain rfl := Option.some.inj hx
                                exact HVB.out
                              · exact HALL.out k (by omega), B6.out⟩
                            case measure => simp [intOf]; omega
                        · obtain rfl : F = j2 := by omega
                          have hd6 : decide (F < F) = false := by simp
                          have hr0 : R = 0 := by
                            rw [← HR3.out]
                            unfold e3
                            rw [if_pos]
                            rw [List.all_eq_true]
                            intro x hx
                            obtain ⟨i, hi⟩ := List.getElem?_of_mem hx
                            exact hall i (by have := (List.getElem?_eq_some_iff.1 hi).1; have := HF.out; omega) x hi
                          subst hr0
                          clear hall hb1
                          go_wp2_with fail
                          go_ret
                          exact ⟨rfl, BK.out⟩
            · go_wp2_with fail
              refine (HEX2.out Wj BW.out).mono ?_
              rintro en W2 ⟨rfl, b2⟩
              have B2 := Lib.hid (BW.out.trans (b2.mono BW.out.size))
              have N2 := Lib.hid (block_later NJ.out b2)
              obtain ⟨p0, p1, p2, p3, p4, p5, p6⟩ := mod_cells N2.out
              clear b2
              cases xb
              · have hr4 : R = 4 := FOUR.out HBAD.out
                subst hr4
                go_wp2_with fail
                go_ret
                exact ⟨rfl, B2.out⟩
              · go_wp2_with fail
                refine (HST2.out W2 B2.out).mono ?_
                rintro en W3 ⟨rfl, b3⟩
                have B3 := Lib.hid (B2.out.trans (b3.mono B2.out.size))
                have N3 := Lib.hid (block_later N2.out b3)
                obtain ⟨p0, p1, p2, p3, p4, p5, p6⟩ := mod_cells N3.out
                clear b3
                cases sb
                · have hr4 : R = 4 := FOUR.out HBAD.out
                  subst hr4
                  go_wp2_with fail
                  go_ret
                  exact ⟨rfl, B3.out⟩
                · have hr2 : e2 m = R := by rw [← HR1.out]; unfold e1; rw [HBAD.out]; rfl
                  have HR2 := Lib.hid hr2
                  clear hr2
                  go_wp2_with fail
                  go_loopw [53] (fun ii wr => RelF W3 (fun k => ∀ x, m.memory[k]? = some x → memBad x = false) 0 ii wr) (fun ii _ => 0 - (intOf ii).toNat)
                  case atStart => exact ⟨0, Nat.zero_le _, rfl, fun k hk => by omega, Below.refl _ _⟩
                  case round =>
                    obtain ⟨j, hj, rfl, hall, hb1⟩ := hrel
                    obtain ⟨Wj, rfl⟩ : ∃ Wj, Wj = wr := ⟨_, rfl⟩
                    have BW := Lib.hid (B3.out.trans (hb1.mono B3.out.size))
                    have NJ := Lib.hid (block_later N3.out hb1)
                    by_cases hlt : j < 0
                    · exact absurd hlt (by omega)
                    · obtain rfl : j = 0 := by omega
                      rw [show ((0 : Nat) : Int) = 0 from rfl]
                      have hd5 : decide (0 < 0) = false := by simp
                      have hr3 : e3 m = R := by
                        rw [← HR2.out]
                        unfold e2
                        rw [if_neg]
                        rw [List.any_eq_true]
                        rintro ⟨x, hx, hx2⟩
                        obtain ⟨i, hi⟩ := List.getElem?_of_mem hx
                        have := hall i (by have := (List.getElem?_eq_some_iff.1 hi).1; have := HML.out; omega) x hi
                        rw [this] at hx2
                        cases hx2
                      have HR3 := Lib.hid hr3
                      obtain ⟨p0, p1, p2, p3, p4, p5, p6⟩ := mod_cells NJ.out
                      clear hall hb1 hr3
                      go_wp2_with fail
                      go_loopw [81] (fun ii wr => RelF Wj (fun k => ∀ x, m.funcs[k]? = some x → validF m x = true) F ii wr) (fun ii _ => F - (intOf ii).toNat)
                      case atStart => exact ⟨0, Nat.zero_le _, rfl, fun k hk => by omega, Below.refl _ _⟩
                      case round =>
                        obtain ⟨j2, hj2, rfl, hall, hb1⟩ := hrel
                        obtain ⟨Wk, rfl⟩ : ∃ Wk, Wk = wr := ⟨_, rfl⟩
                        have BK := Lib.hid (BW.out.trans (hb1.mono BW.out.size))
                        have NK := Lib.hid (block_later NJ.out hb1)
                        by_cases hlt : j2 < F
                        · obtain ⟨xi, hxi⟩ : ∃ xi, m.funcs[j2]? = some xi := ⟨_, List.getElem?_eq_getElem (by have := HF.out; omega)⟩
                          obtain ⟨rr, ⟨cv, hrr, hcv, _, _⟩, _, bc, offc, hcaa, hbc, hcc⟩ := HFA.out j2 xi hxi
                          subst hcaa
                          obtain ⟨ca, cc, hcf, _, _⟩ := hcv.form
                          subst hcf
                          rw [hrr] at hcc
                          have e0 : Wk.cell? ⟨bc, offc + j2 * 3, none⟩ = some (.int .i64 xi.ty) := cell_later BK.out (hcc 0 _ rfl)
                          have e1 : Wk.cell? ⟨bc, offc + j2 * 3 + 1, none⟩ = some (.string xi.locals) := cell_later BK.out (hcc 1 _ rfl)
                          have e2 : Wk.cell? ⟨bc, offc + j2 * 3 + 2, none⟩ = some (.slice ca xi.code.length cc) := cell_later BK.out (hcc 2 _ rfl)
                          have hd6 : decide (j2 < F) = true := decide_eq_true hlt
                          have hi0 : (0 : Int) ≤ (j2 : Int) := by omega
                          have hi1 : (j2 : Int) < (F : Int) := by omega
                          have hmem := List.mem_of_getElem? hxi
                          have hwj : IntKind.i64.wrap ((j2 : Int) + 1) = (j2 : Int) + 1 := IntWalk.i64_in _ (by
                            obtain ⟨_, _, _, h2, _⟩ := HM.out.funcs.form
                            have := HF.out
                            omega)
                          have HXI := Lib.hid hxi
                          have HMEM := Lib.hid hmem
                          have HALL := Lib.hid hall
                          have HB1 := Lib.hid hb1
                          have HCV := Lib.hid (fun (W : World) (hb : Below w.heap.size w W) => HVA2.out W hb xi hmem _ (hcv.later lasts_ins hb))
                          obtain ⟨vb, hvb⟩ : ∃ vb, validF m xi = vb := ⟨_, rfl⟩
                          rw [hvb] at HCV
                          have HVB := Lib.hid hvb
                          obtain ⟨p0, p1, p2, p3, p4, p5, p6⟩ := mod_cells NK.out
                          have hlk := (Array.getElem?_eq_some_iff.1 NK.out).1
                          clear hxi hrr hcc hmem hcv hall hb1 hvb
                          go_wp2_with fail
                          obtain ⟨W5, hW5⟩ : ∃ W5, Wk.alloc (.cells #[.int .i64 xi.ty, .string xi.locals, .slice ca xi.code.length cc] 32) = W5 := ⟨_, rfl⟩
                          rw [hW5]
                          have b5 : Below Wk.heap.size Wk W5 := by rw [← hW5]; exact (Below.refl _ _).alloc (Nat.le_refl _) _
                          have B5 := Lib.hid (HB1.out.trans (b5.mono HB1.out.size))
                          refine (HCV.out W5 (BW.out.trans (B5.out.mono BW.out.size))).mono ?_
                          rintro en W6 ⟨rfl, b6⟩
                          have B6 := Lib.hid (B5.out.trans (b6.mono B5.out.size))
                          clear hW5 b5 b6 e0 e1 e2
                          cases vb
                          · have hr4 : R = 4 := by
                              rw [← HR3.out]
                              unfold e3
                              rw [if_neg]
                              rw [List.all_eq_true]
                              intro h
                              have := h xi HMEM.out
                              rw [HVB.out] at this
                              cases this
                            subst hr4
                            go_wp2_with fail
                            go_ret
                            exact ⟨rfl, BW.out.trans (B6.out.mono BW.out.size)⟩
                          · go_wp2_with fail
                            go_roundw
                            case rel => exact ⟨j2 + 1, by omega, by go_num, fun k hk => by
                              by_cases hkj : k = j2
                              · subst hkj
                                intro x hx
                                rw [HXI.out] at hx
                                obtain rfl := Option.some.inj hx
                                exact HVB.out
                              · exact HALL.out k (by omega), B6.out⟩
                            case measure => simp [intOf]; omega
                        · obtain rfl : F = j2 := by omega
                          have hd6 : decide (F < F) = false := by simp
                          have hr0 : R = 0 := by
                            rw [← HR3.out]
                            unfold e3
                            rw [if_pos]
                            rw [List.all_eq_true]
                            intro x hx
                            obtain ⟨i, hi⟩ := List.getElem?_of_mem hx
                            exact hall i (by have := (List.getElem?_eq_some_iff.1 hi).1; have := HF.out; omega) x hi
                          subst hr0
                          clear hall hb1
                          go_wp2_with fail
                          go_ret
                          exact ⟨rfl, BK.out⟩
end Go.Proofs.YtmbgemcddjailaaGreatDoor.Vld
