/-
  What New makes of a module of at most one page, without blocks. No condition beyond what each theorem names.
-/
import Derived.Test.YtmbgemcddjailaaGreatDoorRnG
import Derived.Deep.RegionHeld3
import Derived.Test.YtmbgemcddjailaaGreatDoorRnS
namespace Go.Proofs.YtmbgemcddjailaaGreatDoor.Run
open Go.RowKit Go.Maps Go.Proofs.YtmbgemcddjailaaGreatDoor.Op Go.Proofs.YtmbgemcddjailaaGreatDoor.Mod
set_option linter.unusedVariables false
set_option linter.unusedSimpArgs false
/-- what the memory holds at first; none: no machine -/
def memO (m : ModP) : Option (Option (List UInt8)) := if m.memory = [] then some none else (dataL m.data zeroL).map some
def NewPost (w : World) (m : ModP) (e : Ending) (w' : World) : Prop := match memO m with
  | none => e = .returned (.tuple #[.pointer none, .int .i64 6]) ∧ Below w.heap.size w w'
  | some L => ∃ K lo, e = .returned (.tuple #[.pointer (some ⟨K.R, 0, none⟩), .int .i64 0]) ∧ MAt w' w'.heap.size K (globL m) ∧ K.m = m ∧ w.heap.size ≤ K.w0.heap.size ∧ K.R < lo ∧ MemS w' lo K.mp L ∧ Below w.heap.size w w'
theorem post_none {w : World} {m : ModP} {e : Ending} {w' : World} (h : memO m = none) (he : e = .returned (.tuple #[.pointer none, .int .i64 6]) ∧ Below w.heap.size w w') : NewPost w m e w' := by unfold NewPost; rw [h]; exact he
theorem post_some {w : World} {m : ModP} {L : Option (List UInt8)} {e : Ending} {w' : World} (h : memO m = some L) (he : ∃ K lo, e = .returned (.tuple #[.pointer (some ⟨K.R, 0, none⟩), .int .i64 0]) ∧ MAt w' w'.heap.size K (globL m) ∧ K.m = m ∧ w.heap.size ≤ K.w0.heap.size ∧ K.R < lo ∧ MemS w' lo K.mp L ∧ Below w.heap.size w w') : NewPost w m e w' := by unfold NewPost; rw [h]; exact he
/-- a module's copy -/
def CopyP (W : World) (m : ModP) (st : Int) (e : Ending) (w' : World) : Prop := ∃ ta tn tc fa fn fc ma mn mc ga gn gc ea en ec da dn dc, e = .returned (modV (.slice ta tn tc) (.slice fa fn fc) (.slice ma mn mc) (.slice ga gn gc) (.slice ea en ec) st (.slice da dn dc)) ∧ ModAt w' (.slice ta tn tc) (.slice fa fn fc) (.slice ma mn mc) (.slice ga gn gc) (.slice ea en ec) st (.slice da dn dc) m ∧ Below W.heap.size W w'
/-- how far the data are laid -/
def DatS (m : ModP) (k : Nat) (L : Option (List UInt8)) : Prop := (m.memory = [] ∧ L = none) ∨ (m.memory ≠ [] ∧ ∃ l, L = some l ∧ dataL (m.data.take k) zeroL = some l)
theorem datS_end {m : ModP} {L : Option (List UInt8)} (h : DatS m m.data.length L) : memO m = some L := by
  unfold memO
  rcases h with ⟨h1, h2⟩ | ⟨h1, l, h2, h3⟩
  · rw [if_pos h1, h2]
  · rw [if_neg h1, h2]
    rw [List.take_of_length_le (Nat.le_refl _)] at h3
    rw [h3]
    rfl
theorem memO_fail {m : ModP} {k : Nat} {X : DataP} {l : List UInt8} (h0 : m.memory ≠ []) (h : dataL (m.data.take k) zeroL = some l) (hX : m.data[k]? = some X) (hf : ¬ offN X.offset + X.bytes.size ≤ 65536) : memO m = none := by
  unfold memO
  have h1 := dataL_snoc m.data zeroL l k X h hX
  rw [if_neg hf] at h1
  rw [if_neg h0, dataL_fail _ _ _ h1]
  rfl
theorem datS_next {m : ModP} {k : Nat} {X : DataP} {l : List UInt8} (h0 : m.memory ≠ []) (h : dataL (m.data.take k) zeroL = some l) (hX : m.data[k]? = some X) (hf : offN X.offset + X.bytes.size ≤ 65536) : DatS m (k + 1) (some (putL l (offN X.offset) X.bytes.data.toList)) := by
  have h1 := dataL_snoc m.data zeroL l k X h hX
  rw [if_pos hf] at h1
  exact .inr ⟨h0, _, rfl, h1⟩
theorem off_u32 (z : Int) : IntKind.u32.wrap z = (offN z : Int) := by
  have h1 := Int.emod_nonneg z (show (4294967296 : Int) ≠ 0 by omega)
  have h2 := Int.emod_lt_of_pos z (show (0 : Int) < 4294967296 by omega)
  unfold offN
  rw [Int.toNat_of_nonneg h1]
  rfl
theorem off_lt (z : Int) : offN z < 4294967296 := by
  have h1 := Int.emod_nonneg z (show (4294967296 : Int) ≠ 0 by omega)
  have h2 := Int.emod_lt_of_pos z (show (0 : Int) < 4294967296 by omega)
  unfold offN
  omega
/-- a machine on its way: its block, its memory -/
structure Mid (w W : World) (m : ModP) (R : Nat) (K : Mk) (lo : Nat) (L : Option (List UInt8)) (gs : List Nat) : Prop where
  ma : MAt W W.heap.size K gs
  mm : K.m = m
  R : K.R = R
  low : w.heap.size ≤ K.w0.heap.size ∧ K.R < lo ∧ lo ≤ W.heap.size
  mem : MemS W lo K.mp L
  bel : Below w.heap.size w W
theorem Mid.later {w W W' : World} {m : ModP} {R lo : Nat} {K : Mk} {L : Option (List UInt8)} {gs : List Nat} (h : Mid w W m R K lo L gs) (hb : Below W.heap.size W W') : Mid w W' m R K lo L gs :=
  ⟨(h.ma.later hb).rise hb.size (Nat.le_refl _), h.mm, h.R, ⟨h.low.1, h.low.2.1, Nat.le_trans h.low.2.2 hb.size⟩, h.mem.later hb, h.bel.trans (hb.mono h.bel.size)⟩
theorem Mid.cells {w W : World} {m : ModP} {R lo : Nat} {K : Mk} {L : Option (List UInt8)} {gs : List Nat} (h : Mid w W m R K lo L gs) : W.cell? ⟨R, 1, none⟩ = some K.f ∧ W.cell? ⟨R, 7, none⟩ = some K.mp ∧ W.cell? ⟨R, 8, none⟩ = some K.gv ∧ (∀ j, W.frozen? ⟨R, j, none⟩ = false) ∧ R < W.heap.size := by
  obtain ⟨_, c1, _, _, _, _, _, c7, c8, _⟩ := h.ma.cells
  rw [h.R] at c1 c7 c8
  have hb := h.ma.box
  rw [h.R] at hb
  exact ⟨c1, c7, c8, fun j => frozen_of_row _ _ j _ _ hb, (Array.getElem?_eq_some_iff.1 hb).1⟩
/-- the memory is laid -/
theorem Mid.setMp {w W : World} {m : ModP} {R lo : Nat} {K : Mk} {L : Option (List UInt8)} (h : Mid w W m R K lo L []) {W1 : World} (hb : Below W.heap.size W W1) {mb pb pc : Nat} {mx : Int} (hP : PmAt W1 W.heap.size mb pb pc (.slice none 0 0) mx zeroL) : Mid w (W1.setCell ⟨R, 7, none⟩ (.pointer (some ⟨mb, 0, none⟩))) m R { K with mp := .pointer (some ⟨mb, 0, none⟩) } W.heap.size (some zeroL) [] := by
  have h1 := h.later hb
  have hR : K.R < W.heap.size := h.ma.lt.2
  have hz : (W1.setCell ⟨R, 7, none⟩ (.pointer (some ⟨mb, 0, none⟩))).heap.size = W1.heap.size := by simp [World.setCell]
  have hR2 := h.R
  subst hR2
  refine ⟨?_, h.mm, rfl, ⟨h.low.1, hR, by rw [hz]; exact hb.size⟩, ⟨mb, pb, pc, .slice none 0 0, mx, rfl, ?_⟩, h1.bel.setCell (p := ⟨K.R, 7, none⟩) (by have := h.ma.lt; have := h.low.1; show w.heap.size ≤ K.R; omega) _⟩
  · have := h1.ma.setMp (.pointer (some ⟨mb, 0, none⟩))
    rw [hz]
    exact this
  · exact hP.kept fun j hj => Below.heap_setCell _ _ _ _ (fun e => by have h9 := (hP.foot_lt j hj).1; have h8 : j = K.R := e; omega)
/-- data are laid -/
theorem Mid.data {w W W' : World} {m : ModP} {R lo : Nat} {K : Mk} {l l' : List UInt8} {gs : List Nat} (h : Mid w W m R K lo (some l) gs) (hg : K.gv = .slice none 0 0) {mb pb pc : Nat} {pv : Value} {mx : Int} (hmp : K.mp = .pointer (some ⟨mb, 0, none⟩)) (hP : PmAt W lo mb pb pc pv mx l) (u : PmUpd W lo mb pb pc pv mx l' W') : Mid w W' m R K lo (some l') gs := by
  obtain ⟨pv', h1, _, h3⟩ := u
  have hF : ∀ j, pmFoot mb pb pv j → lo ≤ j := fun j hj => (hP.foot_lt j hj).1
  refine ⟨(h.ma.keeps h3 (fun j hj => ⟨?_, ?_, by rw [hg]; simp [Value.ownBlock]⟩)).rise h3.size (Nat.le_refl _), h.mm, h.R, ⟨h.low.1, h.low.2.1, Nat.le_trans h.low.2.2 h3.size⟩, ⟨mb, pb, pc, pv', mx, hmp, h1⟩, h.bel.trans (h3.below (fun j hj => ?_) h.bel.size)⟩
  · have := hF j hj; have := h.low; have := h.ma.lt; omega
  · have := hF j hj; have := h.low; omega
  · have := hF j hj; have := h.low; have := h.ma.lt; omega
/-- a global more -/
theorem Mid.glob {w W W1 : World} {m : ModP} {R lo : Nat} {K : Mk} {L : Option (List UInt8)} {gs l : List Nat} (h : Mid w W m R K lo L gs) (g : W.grownBy W1 K.gv.ownBlock) {v' : Value} (o : W1.ownsRow K.w0.heap.size 22 1 v' l.length (natsV l)) (hv : newBlock K.gv v' W) (hlt : ∀ j, v'.ownBlock = some j → j < W1.heap.size) (W2 : World) (hW2 : W1.setCell ⟨R, 8, none⟩ v' = W2) : Mid w W2 m R { K with gv := v' } lo L l ∧ ∀ cs, W.heap[w.heap.size]? = some (.cells cs 41 (0, 0)) → W2.heap[w.heap.size]? = some (.cells cs 41 (0, 0)) := by
  have hR2 := h.R
  subst hR2
  have hM := h.ma.setGv g o hv hlt
  rw [hW2] at hM
  have hz : W2.heap.size = W1.heap.size := by rw [← hW2]; simp [World.setCell]
  have k : Keeps (fun j => K.gv.ownBlock = some j ∨ j = K.R) W W2 := by
    rw [← hW2]
    exact (Keeps.grown (F := fun j => K.gv.ownBlock = some j ∨ j = K.R) g (fun j hj => .inl hj)).trans (Keeps.setCell (F := fun j => K.gv.ownBlock = some j ∨ j = K.R) _ _ _ (.inr rfl)) (fun j hj => .inl hj)
  have hgk : ∀ j, K.gv.ownBlock = some j → ∃ cs f, W.heap[j]? = some (.cells cs 22 f) := fun j hj => by
    rcases h.ma.glob.2 with ⟨h1, _⟩ | ⟨g0, c0, cur, h1, _, h3, _⟩
    · rw [h1] at hj; cases hj
    · rw [h1] at hj
      have e : g0 = j := by simpa [Value.ownBlock] using hj
      rw [← e]
      exact ⟨_, _, h3⟩
  refine ⟨⟨by rw [hz]; exact hM, h.mm, rfl, ⟨h.low.1, h.low.2.1, Nat.le_trans h.low.2.2 k.size⟩, h.mem.beside k (fun j hj => ?_), h.bel.trans (k.below (fun j hj => ?_) h.bel.size)⟩, fun cs hc => (k.block _ (Array.getElem?_eq_some_iff.1 hc).1 (fun hf => ?_)).trans hc⟩
  · rcases hj with hj | rfl
    · obtain ⟨cs, f, hc⟩ := hgk j hj
      exact ⟨cs, _, f, hc, by decide, by decide, by decide⟩
    · exact ⟨_, _, _, h.ma.box, by decide, by decide, by decide⟩
  · rcases hj with hj | rfl
    · exact Nat.le_trans h.low.1 (h.ma.glob.lt j hj).1
    · exact Nat.le_trans h.low.1 h.ma.lt.1
  · rcases hf with hf | hf
    · obtain ⟨cs2, f2, hc2⟩ := hgk _ hf
      rw [hc] at hc2
      simp at hc2
    · have h8 := h.ma.box
      rw [← hf, hc] at h8
      simp at h8
/-- the global's copy -/
abbrev HeldG (xb : Nat) (X : GlobP) (W : World) : Prop := W.heap[xb]? = some (.cells #[.int .i64 X.ty, .bool X.mut_, .int .i64 X.init] 35 (0, 0)) ∧ W.cell? ⟨xb, 0, none⟩ = some (.int .i64 X.ty) ∧ W.cell? ⟨xb, 2, none⟩ = some (.int .i64 X.init)
theorem heldG_of {xb : Nat} {X : GlobP} {W : World} (h : W.heap[xb]? = some (.cells #[.int .i64 X.ty, .bool X.mut_, .int .i64 X.init] 35 (0, 0))) : HeldG xb X W := ⟨h, cell_of_row _ _ _ _ _ _ h, cell_of_row _ _ _ _ _ _ h⟩
theorem heldG_later {xb : Nat} {X : GlobP} {W W' : World} (c : Below W.heap.size W W') (h : HeldG xb X W) : HeldG xb X W' := heldG_of ((c.block _ (Array.getElem?_eq_some_iff.1 h.1).1).trans h.1)
set_option maxRecDepth 100000 in
set_option maxHeartbeats 16000000 in
theorem new_any (w : World) (t f me g e : Value) (st : Int) (d : Value) (m : ModP) (hM : ModAt w t f me g e st d m) (hlen : m.funcs.length ≤ 100000 ∧ m.globals.length ≤ 100000 ∧ m.data.length ≤ 100000)
    (hval : ∀ W, Below w.heap.size w W → Calls Tryz.prog 13 #[modV t f me g e st d] W fun e w' => e = .returned (.int .i64 0) ∧ Below W.heap.size W w')
    (hcopy : ∀ W, Below w.heap.size w W → Calls Tryz.prog 14 #[modV t f me g e st d] W (CopyP W m st))
    (hmem : (m.memory = [] ∧ m.data = []) ∨ ∃ most, m.memory = [⟨1, most⟩] ∧ (most = -1 ∨ (1 ≤ most ∧ most ≤ 65536))) (hdata : ∀ x ∈ m.data, x.bytes.size ≤ 1000000) (hflat : ∀ F ∈ m.funcs, Flat F.code ∧ F.code.length ≤ 1000000) :
    Calls Tryz.prog 6 #[modV t f me g e st d] w (NewPost w m) := by
  obtain ⟨ta, tc, rfl, _, _⟩ := hM.types.form
  obtain ⟨fa, fc, rfl, _, _⟩ := hM.funcs.form
  obtain ⟨ma, mc, rfl, _, hmat⟩ := hM.memory.form
  obtain ⟨ga, gc, rfl, _, hgat⟩ := hM.globals.form
  obtain ⟨ea, ec, rfl, _, _⟩ := hM.exports.form
  obtain ⟨da, dc, rfl, _, hdat⟩ := hM.data.form
  have HV := Lib.hid hval
  have HC := Lib.hid hcopy
  have HMAT := Lib.hid hmat
  have HGAT := Lib.hid hgat
  have HDAT := Lib.hid hdat
  have HMEM := Lib.hid hmem
  have HDATA := Lib.hid hdata
  have HFLAT := Lib.hid hflat
  have HLEN := Lib.hid hlen
  clear hM hval hcopy hmat hgat hdat hmem hdata hflat hlen
  unfold modV at HV HC ⊢
  go_enter Tryz.func6, Tryz.ntmps6
  go_upto_region 1 with fail
  obtain ⟨PB, hPB⟩ : ∃ PB : Array Value, PB = #[.slice ta m.types.length tc, .slice fa m.funcs.length fc, .slice ma m.memory.length mc, .slice ga m.globals.length gc, .slice ea m.exports.length ec, .int .i64 st, .slice da m.data.length dc] := ⟨_, rfl⟩
  obtain ⟨W1, hW1⟩ : ∃ W1, w.alloc (.cells #[.slice ta m.types.length tc, .slice fa m.funcs.length fc, .slice ma m.memory.length mc, .slice ga m.globals.length gc, .slice ea m.exports.length ec, .int .i64 st, .slice da m.data.length dc] 41) = W1 := ⟨_, rfl⟩
  have e1 : Below w.heap.size w W1 := by rw [← hW1]; exact (Below.refl _ _).alloc (Nat.le_refl _) _
  have r1 : W1.heap[w.heap.size]? = some (.cells PB 41 (0, 0)) := by rw [← hW1, hPB]; exact heap_alloc_new _ _
  rw [hW1]
  have HPB := Lib.hid hPB
  have hq : ∀ W : World, W.heap[w.heap.size]? = some (.cells PB 41 (0, 0)) → W.cell? ⟨w.heap.size, 0, none⟩ = some (.slice ta m.types.length tc) ∧ W.cell? ⟨w.heap.size, 1, none⟩ = some (.slice fa m.funcs.length fc) ∧ W.cell? ⟨w.heap.size, 2, none⟩ = some (.slice ma m.memory.length mc) ∧ W.cell? ⟨w.heap.size, 3, none⟩ = some (.slice ga m.globals.length gc) ∧ W.cell? ⟨w.heap.size, 4, none⟩ = some (.slice ea m.exports.length ec) ∧ W.cell? ⟨w.heap.size, 5, none⟩ = some (.int .i64 st) ∧ W.cell? ⟨w.heap.size, 6, none⟩ = some (.slice da m.data.length dc) := fun W hW => by
    rw [HPB.out] at hW
    refine ⟨?_, ?_, ?_, ?_, ?_, ?_, ?_⟩ <;> (rw [cell_of_row W _ _ _ _ _ hW]; rfl)
  have HQ := Lib.hid hq
  have E1 := Lib.hid e1
  have R1 := Lib.hid r1
  clear hPB hW1 hq
  obtain ⟨q0, q1, q2, q3, q4, q5, q6⟩ := HQ.out _ r1
  clear e1 r1
  go_wp2_with fail
  refine (HV.out W1 E1.out).mono ?_
  rintro e W2 ⟨rfl, b2⟩
  have E2 := Lib.hid (E1.out.trans (b2.mono E1.out.size))
  have R2 := Lib.hid ((b2.block _ (Array.getElem?_eq_some_iff.1 R1.out).1).trans R1.out)
  clear b2 q0 q1 q2 q3 q4 q5 q6
  obtain ⟨q0, q1, q2, q3, q4, q5, q6⟩ := HQ.out _ R2.out
  go_wp2_with fail
  refine (HC.out W2 E2.out).mono ?_
  rintro e W3 ⟨ta', tn', tc', fa', fn', fc', ma', mn', mc', ga', gn', gc', ea', en', ec', da', dn', dc', rfl, hM3, b3⟩
  have E3 := Lib.hid (E2.out.trans (b3.mono E2.out.size))
  have R3 := Lib.hid ((b3.block _ (Array.getElem?_eq_some_iff.1 R2.out).1).trans R2.out)
  have HM3 := Lib.hid hM3
  have hmm := @run_makeMap Tryz.prog
  clear b3 q0 q1 q2 q3 q4 q5 q6 hM3
  unfold modV
  go_wp2_with fail
  obtain ⟨W4, hW4⟩ : ∃ W4, W3.alloc (.map #[] 0) = W4 := ⟨_, rfl⟩
  have b4 : Below W3.heap.size W3 W4 := by rw [← hW4]; exact (Below.refl _ _).alloc (Nat.le_refl _) _
  rw [hW4]
  have B4 := Lib.hid b4
  clear hW4 b4
  refine (accesses_any W4).mono ?_
  rintro e W5 ⟨ab, rfl, hD, hab, b5⟩
  have B5 := Lib.hid (B4.out.trans (b5.mono B4.out.size))
  clear b5 hD
  go_upto_region 5 with fail
  obtain ⟨W6, hW6⟩ : ∃ W6, W5.alloc (.cells #[.slice ta' tn' tc', .slice fa' fn' fc', .slice ma' mn' mc', .slice ga' gn' gc', .slice ea' en' ec', .int .i64 st, .slice da' dn' dc', .pointer none, .slice none 0 0, .map (some W3.heap.size), .map (some ab)] 72) = W6 := ⟨_, rfl⟩
  have b6 : Below W5.heap.size W5 W6 := by rw [← hW6]; exact (Below.refl _ _).alloc (Nat.le_refl _) _
  have r6 : W6.heap[W5.heap.size]? = some (.cells #[.slice ta' tn' tc', .slice fa' fn' fc', .slice ma' mn' mc', .slice ga' gn' gc', .slice ea' en' ec', .int .i64 st, .slice da' dn' dc', .pointer none, .slice none 0 0, .map (some W3.heap.size), .map (some ab)] 72 (0, 0)) := by rw [← hW6]; exact heap_alloc_new _ _
  have z6 : W5.heap.size < W6.heap.size := (Array.getElem?_eq_some_iff.1 r6).1
  have B6 := Lib.hid (B5.out.trans (b6.mono B5.out.size))
  have E6 := Lib.hid (E3.out.trans (B6.out.mono E3.out.size))
  have R6 := Lib.hid ((B6.out.block _ (Array.getElem?_eq_some_iff.1 R3.out).1).trans R3.out)
  have HMID := Lib.hid (show Mid w W6 m W5.heap.size ⟨W5.heap.size, W3, .slice ta' tn' tc', .slice fa' fn' fc', .slice ma' mn' mc', .slice ga' gn' gc', .slice ea' en' ec', st, .slice da' dn' dc', m, .pointer none, .slice none 0 0, W3.heap.size, ab⟩ W6.heap.size none [] from
    ⟨⟨r6, ⟨B5.out.size, z6⟩, HM3.out, B6.out, World.ownsRow_nil _ _ _ _, fun j hj => by simp [Value.ownBlock] at hj, Nat.le_refl _⟩, rfl, rfl, ⟨E3.out.size, z6, Nat.le_refl _⟩, rfl, E6.out⟩)
  obtain ⟨R, hR⟩ : ∃ R, W5.heap.size = R := ⟨_, rfl⟩
  rw [hW6]
  rw [hR] at HMID ⊢
  have hwR : w.heap.size < R := by have h1 := (Array.getElem?_eq_some_iff.1 R3.out).1; have h2 := B5.out.size; omega
  clear hW6 b6 r6 z6 hR
  obtain ⟨q0, q1, q2, q3, q4, q5, q6⟩ := HQ.out _ R6.out
  go_wp2_with fail
  clear q0 q1 q2 q3 q4 q5 q6
  go_loopw [28] (fun q wr => ∃ (k : Nat) (K : Mk) (lo : Nat) (L : Option (List UInt8)), k ≤ m.memory.length ∧ q = .int .i64 (k : Int) ∧ Mid w wr m R K lo L [] ∧ K.gv = .slice none 0 0 ∧ L = (if k = 0 then none else some zeroL) ∧ wr.heap[w.heap.size]? = some (.cells PB 41 (0, 0))) (fun q _ => m.memory.length - (intOf q).toNat)
  case atStart => exact ⟨0, _, _, _, Nat.zero_le _, rfl, HMID.out, rfl, rfl, R6.out⟩
  case round =>
    obtain ⟨k, K, lo, L, hk, rfl, hmid, hgv, hL, hpb⟩ := hrel
    have HMD := Lib.hid hmid
    have HPBX := Lib.hid hpb
    have HGV := Lib.hid hgv
    have HL := Lib.hid hL
    clear hmid hgv hL hpb
    by_cases hlt : k < m.memory.length
    · obtain ⟨most, hm1, hm2⟩ : ∃ most, m.memory = [⟨1, most⟩] ∧ (most = -1 ∨ (1 ≤ most ∧ most ≤ 65536)) := by
        rcases HMEM.out with ⟨h1, _⟩ | h1
        · rw [h1] at hlt; simp at hlt
        · exact h1
      obtain rfl : k = 0 := by rw [hm1] at hlt; simp at hlt; exact hlt
      obtain ⟨r, hr, _, b, off, hma, hb2, hcell⟩ := HMAT.out 0 ⟨1, most⟩ (by rw [hm1]; rfl)
      have hr2 : r = [.int .i64 1, .int .i64 most] := hr
      rw [hr2] at hcell
      subst hma
      have hd : decide (0 < m.memory.length) = true := decide_eq_true hlt
      have c0 : wr.cell? ⟨b, off, none⟩ = some (.int .i64 1) := by have := cell_later HMD.out.bel (hcell 0 _ rfl); simpa using this
      have c1 : wr.cell? ⟨b, off + 1, none⟩ = some (.int .i64 most) := by have := cell_later HMD.out.bel (hcell 1 _ rfl); simpa using this
      have hk0 : (0 : Int) < (m.memory.length : Int) := by omega
      obtain ⟨q0, q1, q2, q3, q4, q5, q6⟩ := HQ.out _ HPBX.out
      have HM1 := Lib.hid hm1
      clear hr hr2 hcell hm1
      go_upto_region 9 with fail
      obtain ⟨W7, hW7⟩ : ∃ W7, wr.alloc (.cells #[.int .i64 1, .int .i64 most] 55) = W7 := ⟨_, rfl⟩
      have b7 : Below wr.heap.size wr W7 := by rw [← hW7]; exact (Below.refl _ _).alloc (Nat.le_refl _) _
      have p0 : W7.cell? ⟨wr.heap.size, 0, none⟩ = some (.int .i64 1) := by rw [← hW7, World.cell?_alloc_at _ _ _ _ rfl]; rfl
      have p1 : W7.cell? ⟨wr.heap.size, 1, none⟩ = some (.int .i64 most) := by rw [← hW7, World.cell?_alloc_at _ _ _ _ rfl]; rfl
      rw [hW7]
      have HMD7 := Lib.hid (HMD.out.later b7)
      have HPB7 := Lib.hid ((b7.block _ (Array.getElem?_eq_some_iff.1 HPBX.out).1).trans HPBX.out)
      clear hW7 b7 c0 c1 q0 q1 q2 q3 q4 q5 q6
      go_wp2_with fail
      refine (new_mem W7 most hm2).mono ?_
      rintro e W8 ⟨mb, pb, pc, mx, rfl, hP, b8⟩
      obtain ⟨_, c7, _, fz, hRl⟩ := (HMD7.out.later b8).cells
      have fz7 := fz 7
      have HMD8 := Lib.hid (HMD7.out.setMp b8 hP)
      have HPB8 := Lib.hid (show (W8.setCell ⟨R, 7, none⟩ (.pointer (some ⟨mb, 0, none⟩))).heap[w.heap.size]? = some (.cells PB 41 (0, 0)) from (Below.heap_setCell _ _ _ _ (by show w.heap.size ≠ R; omega)).trans ((b8.block _ (Array.getElem?_eq_some_iff.1 HPB7.out).1).trans HPB7.out))
      clear b8 hP fz p0 p1
      go_wp2_with fail
      go_roundw
      case rel => exact ⟨1, _, _, _, by omega, by go_num, HMD8.out, HGV.out, rfl, HPB8.out⟩
      case measure => simp [intOf]; omega
    · obtain rfl : k = m.memory.length := by omega
      have hd : decide (m.memory.length < m.memory.length) = false := by simp
      have HL2 := Lib.hid (show DatS m 0 L by
        rw [HL.out]
        rcases HMEM.out with ⟨h1, _⟩ | ⟨most, h1, _⟩
        · exact .inl ⟨h1, by rw [h1]; rfl⟩
        · exact .inr ⟨by rw [h1]; simp, zeroL, by rw [h1]; rfl, by simp [dataL]⟩)
      obtain ⟨q0, q1, q2, q3, q4, q5, q6⟩ := HQ.out _ HPBX.out
      go_wp2_with fail
      clear q0 q1 q2 q3 q4 q5 q6 hd
      obtain ⟨WA, rfl⟩ : ∃ WA, WA = wr := ⟨_, rfl⟩
      go_loopw [50] (fun q wr => ∃ (k : Nat) (K : Mk) (lo : Nat) (L : Option (List UInt8)), k ≤ m.data.length ∧ q = .int .i64 (k : Int) ∧ Mid w wr m R K lo L [] ∧ K.gv = .slice none 0 0 ∧ DatS m k L ∧ wr.heap[w.heap.size]? = some (.cells PB 41 (0, 0))) (fun q _ => m.data.length - (intOf q).toNat)
      case atStart => exact ⟨0, _, _, _, Nat.zero_le _, rfl, HMD.out, HGV.out, HL2.out, HPBX.out⟩
      case round =>
        clear HMD HPBX HGV HL HL2
        obtain ⟨k, K, lo, L, hk, rfl, hmid, hgv, hL, hpb⟩ := hrel
        have HMD := Lib.hid hmid
        have HPBX := Lib.hid hpb
        have HGV := Lib.hid hgv
        have HL := Lib.hid hL
        clear hmid hgv hL hpb
        by_cases hlt : k < m.data.length
        · obtain ⟨X, hX⟩ : ∃ X, m.data[k]? = some X := ⟨_, List.getElem?_eq_getElem hlt⟩
          obtain ⟨hm0, l, hLl, hdl⟩ : m.memory ≠ [] ∧ ∃ l, L = some l ∧ dataL (m.data.take k) zeroL = some l := by
            rcases HL.out with ⟨h1, _⟩ | h1
            · rcases HMEM.out with ⟨_, h2⟩ | ⟨most, h2, _⟩
              · rw [h2] at hlt; simp at hlt
              · rw [h2] at h1; simp at h1
            · exact h1
          subst hLl
          obtain ⟨mb, pb, pc, pv, mx, hmp, hP⟩ := HMD.out.mem
          obtain ⟨r, ⟨hr, _⟩, _, b, off, hda, hb2, hcell⟩ := HDAT.out k X hX
          rw [hr] at hcell
          subst hda
          have hd : decide (k < m.data.length) = true := decide_eq_true hlt
          have c0 : wr.cell? ⟨b, off + k * 2, none⟩ = some (.int .i64 X.offset) := cell_later HMD.out.bel (hcell 0 _ rfl)
          have c1 : wr.cell? ⟨b, off + k * 2 + 1, none⟩ = some (.string X.bytes) := cell_later HMD.out.bel (hcell 1 _ rfl)
          have hk0 : (0 : Int) ≤ (k : Int) := by omega
          have hk1 : (k : Int) < (m.data.length : Int) := by omega
          have HX := Lib.hid hX
          have HM0 := Lib.hid hm0
          have HDL := Lib.hid hdl
          have HMP := Lib.hid hmp
          have HP := Lib.hid hP
          clear hr hcell hX hm0 hdl hmp hP
          go_upto_region 16 with fail
          obtain ⟨W9, hW9⟩ : ∃ W9, wr.alloc (.cells #[.int .i64 X.offset, .string X.bytes] 57) = W9 := ⟨_, rfl⟩
          have b9 : Below wr.heap.size wr W9 := by rw [← hW9]; exact (Below.refl _ _).alloc (Nat.le_refl _) _
          have p0 : W9.cell? ⟨wr.heap.size, 0, none⟩ = some (.int .i64 X.offset) := by rw [← hW9, World.cell?_alloc_at _ _ _ _ rfl]; rfl
          have p1 : W9.cell? ⟨wr.heap.size, 1, none⟩ = some (.string X.bytes) := by rw [← hW9, World.cell?_alloc_at _ _ _ _ rfl]; rfl
          obtain ⟨wd, hwd⟩ : ∃ wd, W9.drew = wd := ⟨_, rfl⟩
          have bd : Below wr.heap.size wr wd := by rw [← hwd]; exact b9.drew
          have HMDd := Lib.hid (HMD.out.later bd)
          have HPBd := Lib.hid ((bd.block _ (Array.getElem?_eq_some_iff.1 HPBX.out).1).trans HPBX.out)
          have HPd := Lib.hid (HP.out.later bd)
          have c7 : W9.cell? ⟨R, 7, none⟩ = some (.pointer (some ⟨mb, 0, none⟩)) := by
            have h9 := (HMD.out.later b9).cells.2.1
            rw [HMP.out] at h9
            exact h9
          have hu1 := off_u32 X.offset
          have hu2 : IntKind.u64.wrap (offN X.offset : Int) = (offN X.offset : Int) := IntWalk.u64_in _ (by have := off_lt X.offset; omega)
          have HWD := Lib.hid hwd
          rw [hW9]
          clear hW9 b9 bd c0 c1 hwd
          go_still_tail 10, (by kernel_rfl)
          change wpList _ _ _ _ _ W9.drew
          have hwd := HWD.out
          have p0 : wd.cell? ⟨wr.heap.size, 0, none⟩ = some (.int .i64 X.offset) := by rw [← hwd]; exact p0
          have p1 : wd.cell? ⟨wr.heap.size, 1, none⟩ = some (.string X.bytes) := by rw [← hwd]; exact p1
          have c7 : wd.cell? ⟨R, 7, none⟩ = some (.pointer (some ⟨mb, 0, none⟩)) := by rw [← hwd]; exact c7
          rw [hwd]
          clear hwd
          go_wp2_with fail
          refine (write_any wd lo mb pb pc pv mx l HPd.out HMDd.out.low.2.2 (offN X.offset) (by have := off_lt X.offset; omega) X.bytes (HDATA.out X (List.mem_of_getElem? HX.out))).mono ?_
          rintro e W10 ⟨rfl, u⟩
          have HPB10 := Lib.hid (show W10.heap[w.heap.size]? = some (.cells PB 41 (0, 0)) from by
            obtain ⟨_, _, _, u3⟩ := u
            exact (u3.block _ (Array.getElem?_eq_some_iff.1 HPBd.out).1 (fun hf => by have h8 := (HPd.out.foot_lt _ hf).1; have h9 := HMDd.out.low; have h7 := HMDd.out.R; omega)).trans HPBd.out)
          have HMD10 := Lib.hid (HMDd.out.data HGV.out HMP.out HPd.out u)
          clear u p0 p1 c7 hu1 hu2
          by_cases hf : offN X.offset + X.bytes.size ≤ 65536
          · rw [if_pos hf] at HMD10
            have hdf : decide (offN X.offset + X.bytes.size ≤ 65536) = true := decide_eq_true hf
            have HNX := Lib.hid (datS_next HM0.out HDL.out HX.out hf)
            clear hf
            go_wp2_with fail
            go_roundw
            case rel => exact ⟨k + 1, K, lo, _, by omega, by go_num, HMD10.out, HGV.out, HNX.out, HPB10.out⟩
            case measure => simp [intOf]; omega
          · have hdf : decide (offN X.offset + X.bytes.size ≤ 65536) = false := decide_eq_false hf
            have HNO := Lib.hid (memO_fail HM0.out HDL.out HX.out hf)
            clear hf
            go_wp2_with fail
            go_ret2
            exact post_none HNO.out ⟨rfl, HMD10.out.bel⟩
        · obtain rfl : k = m.data.length := by omega
          have hd : decide (m.data.length < m.data.length) = false := by simp
          have HLO := Lib.hid (datS_end HL.out)
          obtain ⟨q0, q1, q2, q3, q4, q5, q6⟩ := HQ.out _ HPBX.out
          go_wp2_with fail
          clear q0 q1 q2 q3 q4 q5 q6 hd
          obtain ⟨WB, rfl⟩ : ∃ WB, WB = wr := ⟨_, rfl⟩
          go_loopw [70] (fun q wr => ∃ (k : Nat) (K : Mk) (lo : Nat), k ≤ m.globals.length ∧ q = .int .i64 (k : Int) ∧ Mid w wr m R K lo L ((globL m).take k) ∧ wr.heap[w.heap.size]? = some (.cells PB 41 (0, 0))) (fun q _ => m.globals.length - (intOf q).toNat)
          case atStart => exact ⟨0, _, _, Nat.zero_le _, rfl, by simpa using HMD.out, HPBX.out⟩
          case round =>
            clear HMD HPBX HGV HL
            obtain ⟨k, KM, lo, hk, rfl, hmid, hpb⟩ := hrel
            have HMD := Lib.hid hmid
            have HPBX := Lib.hid hpb
            clear hmid hpb
            by_cases hlt : k < m.globals.length
            · obtain ⟨X, hX⟩ : ∃ X, m.globals[k]? = some X := ⟨_, List.getElem?_eq_getElem hlt⟩
              obtain ⟨r, hr, _, b, off, hga, hb2, hcell⟩ := HGAT.out k X hX
              have hr2 : r = [.int .i64 X.ty, .bool X.mut_, .int .i64 X.init] := hr
              rw [hr2] at hcell
              subst hga
              have hd : decide (k < m.globals.length) = true := decide_eq_true hlt
              have c0 : wr.cell? ⟨b, off + k * 3, none⟩ = some (.int .i64 X.ty) := cell_later HMD.out.bel (hcell 0 _ rfl)
              have c1 : wr.cell? ⟨b, off + k * 3 + 1, none⟩ = some (.bool X.mut_) := cell_later HMD.out.bel (hcell 1 _ rfl)
              have c2 : wr.cell? ⟨b, off + k * 3 + 2, none⟩ = some (.int .i64 X.init) := cell_later HMD.out.bel (hcell 2 _ rfl)
              have hk0 : (0 : Int) ≤ (k : Int) := by omega
              have hk1 : (k : Int) < (m.globals.length : Int) := by omega
              obtain ⟨N, hN⟩ : ∃ N : Nat, (X.init % 18446744073709551616).toNat = N := ⟨_, rfl⟩
              have hwN : IntKind.u64.wrap X.init = (N : Int) := by
                have h1 := Int.emod_nonneg X.init (show (18446744073709551616 : Int) ≠ 0 by omega)
                rw [← hN, Int.toNat_of_nonneg h1]
                rfl
              have hNl : N < 18446744073709551616 := by
                have h2 := Int.emod_lt_of_pos X.init (show (0 : Int) < 18446744073709551616 by omega)
                omega
              have HTK := Lib.hid (show (globL m).take (k + 1) = (globL m).take k ++ [cutP X.ty N] by
                rw [List.take_add_one, ← hN]
                simp [globL, hX])
              have HTL := Lib.hid (show ((globL m).take k).length = k by rw [List.length_take]; simp [globL]; omega)
              have HNL := Lib.hid hNl
              clear hr hr2 hcell hX hN
              go_upto_region 22 with fail
              obtain ⟨W9, hW9⟩ : ∃ W9, wr.alloc (.cells #[.int .i64 X.ty, .bool X.mut_, .int .i64 X.init] 35) = W9 := ⟨_, rfl⟩
              have b9 : Below wr.heap.size wr W9 := by rw [← hW9]; exact (Below.refl _ _).alloc (Nat.le_refl _) _
              have p0 : HeldG wr.heap.size X W9 := heldG_of (by rw [← hW9]; exact heap_alloc_new _ _)
              rw [hW9]
              obtain ⟨xb, hxb⟩ : ∃ xb, wr.heap.size = xb := ⟨_, rfl⟩
              rw [hxb] at p0 ⊢
              obtain ⟨V0, hV0⟩ : ∃ V, W9.drew = V := ⟨_, rfl⟩
              have hbV : Below wr.heap.size wr V0 := by rw [← hV0]; exact b9.drew
              have HMD := Lib.hid (HMD.out.later hbV)
              have HPBX := Lib.hid ((hbV.block _ (Array.getElem?_eq_some_iff.1 HPBX.out).1).trans HPBX.out)
              have HZ := Lib.hid (show HeldG xb X V0 by rw [← hV0]; exact p0)
              obtain ⟨i0, hi9, hz0, hz1, hz2⟩ := info_of info_u64
              refine wp_region_held_drew (S := fun W => HeldG xb X W) (by kernel_rfl) (by rw [hV0]; exact HZ.out) (fun hHeld => ?_)
              rw [hV0] at hHeld ⊢
              clear hW9 b9 hV0 hbV c0 c1 c2 p0 hxb
              refine ty 0 (some 74) (h := ?_)
              try simp only [zpA, zpB, zpC, zpD, zpE]
              refine ty 1 (some 75) (h := ?_)
              try simp only [zpA, zpB, zpC, zpD, zpE]
              refine ty 2 (some 76) (h := ?_)
              try simp only [zpA, zpB, zpC, zpD, zpE]
              refine ty 3 (some 77) (h := ?_)
              try simp only [zpA, zpB, zpC, zpD, zpE]
              refine ty 5 (some 79) (h := ?_)
              try simp only [zpA, zpB, zpC, zpD, zpE]
              refine ty 6 (some 80) (h := ?_)
              try simp only [zpA, zpB, zpC, zpD, zpE]
              refine ty 7 (some 81) (h := ?_)
              try simp only [zpA, zpB, zpC, zpD, zpE]
              refine ty 8 (some 82) (h := ?_)
              try simp only [zpA, zpB, zpC, zpD, zpE]
              refine ty 9 (some 83) (h := ?_)
              try simp only [zpA, zpB, zpC, zpD, zpE]
              refine wpAnyH_ready (rs := [4, 10]) (by kernel_rfl) (by simp) ?_
              refine (AllReadyH.cons (o := _) rfl (fun K hK => ?_) (AllReadyH.cons (o := _) rfl (fun K hK => ?_) AllReadyH.nil))
              · skip
                have p8 := HMD.out.cells.2.2.1
                go_simp
                refine hK.out _ _ hHeld (fun hHeld => ?_)
                clear p8
                clear hK K
                try simp only [zpA, zpB, zpC, zpD, zpE]
                refine wpAnyH_ready (rs := [10]) (by kernel_rfl) (by simp) ?_
                refine (AllReadyH.cons (o := _) rfl (fun K hK => ?_) AllReadyH.nil)
                go_simp
                go_at_call 18
                refine (cut_any X.ty N HNL.out _).mono ?_
                rintro e V1 ⟨rfl, c9⟩
                go_wp2_with fail
                have hS9 : HeldG xb X V1 := heldG_later c9 hHeld
                replace HPBX := Lib.hid ((c9.block _ (Array.getElem?_eq_some_iff.1 HPBX.out).1).trans HPBX.out)
                replace HMD := Lib.hid (HMD.out.later c9)
                refine hK.out _ _ hS9 (fun hHeld => ?_)
                clear hS9 c9
                clear hK K
                try simp only [zpA, zpB, zpC, zpD, zpE]
                refine wpAnyH_ready (rs := [11]) (by kernel_rfl) (by simp) ?_
                refine (AllReadyH.cons (o := _) rfl (fun K hK => ?_) AllReadyH.nil)
                go_simp
                have c9 : Below V1.heap.size V1 (V1.alloc (.cells #[.int .u64 (cutP X.ty N : Int)] 22)) := (Below.refl _ _).alloc (Nat.le_refl _) _
                have hn9 := news_at V1 #[.int .u64 (cutP X.ty N : Int)] 22 [.int .u64 (cutP X.ty N : Int)] rfl
                generalize hg9 : V1.heap.size = g9 at hn9 ⊢
                obtain ⟨V2, hV9⟩ : ∃ V, V1.alloc (.cells #[.int .u64 (cutP X.ty N : Int)] 22) = V := ⟨_, rfl⟩
                rw [hV9] at hn9 c9 ⊢
                have HNW := Lib.hid hn9
                have c9 : Below V1.heap.size V1 V2 := by rw [← hV9]; exact (Below.refl _ _).alloc (Nat.le_refl _) _
                have hS9 : HeldG xb X V2 := heldG_later c9 hHeld
                replace HPBX := Lib.hid ((c9.block _ (Array.getElem?_eq_some_iff.1 HPBX.out).1).trans HPBX.out)
                replace HMD := Lib.hid (HMD.out.later c9)
                refine hK.out _ _ hS9 (fun hHeld => ?_)
                clear hS9 c9 hg9 hV9 hn9
                clear hK K
                try simp only [zpA, zpB, zpC, zpD, zpE]
                refine wpAnyH_ready (rs := [12]) (by kernel_rfl) (by simp) ?_
                refine (AllReadyH.cons (o := _) rfl (fun K hK => ?_) AllReadyH.nil)
                have ho0 := HMD.out.ma.glob
                rw [HTL.out] at ho0
                refine step_append_own2 _ (by rfl) _ _ _ (by rfl) KM.w0.heap.size 22 i0 (.int .u64 0) 1 8 Tryz.underlying46 hi9 hz0 hz1 hz2 rfl (by decide) KM.gv k (natsV ((globL m).take k)) (by rfl) ho0 ⟨g9, 0, none⟩ 1 1 [.int .u64 (cutP X.ty N : Int)] (by rfl) rfl HNW.out (one_nat _) (by decide) (by have := HLEN.out.2.1; unfold maxLen; omega) (by have := HLEN.out.2.1; omega) (by have h1 := HMD.out.ma.lt; have h2 := HMD.out.ma.wB; omega) ?_
                intro ga9 cap9 V3 hown hgrow hnb
                have hfz := HMD.out.cells.2.2.2.1 8
                have p8 := HMD.out.cells.2.2.1
                have hRl := HMD.out.cells.2.2.2.2
                have hneR : KM.gv.ownBlock ≠ some R := by have h1 := HMD.out.ma.box; rw [HMD.out.R] at h1; exact kind_ne HMD.out.ma.glob h1 (by decide)
                have hblk : V3.heap[R]? = V2.heap[R]? := hgrow.block R hRl (Ne.symm hneR)
                have cz : V3.cell? ⟨R, 8, none⟩ = some KM.gv := (World.cell?_of_block (a := ⟨R, 8, none⟩) hblk).trans p8
                have fz : V3.frozen? ⟨R, 8, none⟩ = false := (World.frozen?_of_block (a := ⟨R, 8, none⟩) hblk).trans hfz
                have HGL := Lib.hid (HMD.out.glob (l := (globL m).take (k + 1)) hgrow (by rw [HTK.out, natsV_snoc, List.length_append, HTL.out]; exact hown) hnb (fun j hj => (hown.lt j hj).2))
                have hS9 : HeldG xb X V3 := heldG_of ((hgrow.block xb (Array.getElem?_eq_some_iff.1 hHeld.1).1 (Ne.symm (kind_ne HMD.out.ma.glob hHeld.1 (by decide)))).trans hHeld.1)
                have HRB := Lib.hid (show xb ≠ R from fun e => by have h1 := HMD.out.ma.box; rw [HMD.out.R, ← e, hHeld.1] at h1; simp at h1)
                refine hK.out _ _ hS9 (fun hHeld => ?_)
                clear hS9 hown hgrow hnb hfz p8 hblk hneR ho0
                clear hK K
                try simp only [zpA, zpB, zpC, zpD, zpE]
                refine ty 13 (some 87) (h := ?_)
                try simp only [zpA, zpB, zpC, zpD, zpE]
                refine ty 14 (some 88) (h := ?_)
                try simp only [zpA, zpB, zpC, zpD, zpE]
                refine wpAnyH_ready (rs := [15]) (by kernel_rfl) (by simp) ?_
                refine (AllReadyH.cons (o := _) rfl (fun K hK => ?_) AllReadyH.nil)
                obtain ⟨V9, hV9⟩ : ∃ V, V3.setCell ⟨R, 8, none⟩ (.slice (some ⟨ga9, 0, none⟩) (k + 1) cap9) = V := ⟨_, rfl⟩
                obtain ⟨y1, y2⟩ := HGL.out V9 hV9
                have HY1 := Lib.hid y1
                have HY2 := Lib.hid (y2 _ HPBX.out)
                go_simp
                try rw [hV9]
                have hS9 : HeldG xb X V9 := heldG_of (by rw [← hV9]; exact (Below.heap_setCell _ _ _ _ HRB.out).trans hHeld.1)
                refine hK.out _ _ hS9 (fun hHeld => ?_)
                clear hS9 y1 y2 hV9 cz fz
                clear hK K
                try simp only [zpA, zpB, zpC, zpD, zpE]
                refine wpAnyH_done (by kernel_rfl) ?_ _
                clear hHeld
                go_wp2_with fail
                go_roundw
                case rel => exact ⟨k + 1, _, lo, by omega, by go_num, HY1.out, HY2.out⟩
                case measure => simp [intOf]; omega
              · skip
                go_simp
                go_at_call 18
                refine (cut_any X.ty N HNL.out _).mono ?_
                rintro e V4 ⟨rfl, c9⟩
                go_wp2_with fail
                have hS9 : HeldG xb X V4 := heldG_later c9 hHeld
                replace HPBX := Lib.hid ((c9.block _ (Array.getElem?_eq_some_iff.1 HPBX.out).1).trans HPBX.out)
                replace HMD := Lib.hid (HMD.out.later c9)
                refine hK.out _ _ hS9 (fun hHeld => ?_)
                clear hS9 c9
                clear hK K
                try simp only [zpA, zpB, zpC, zpD, zpE]
                refine wpAnyH_ready (rs := [4, 11]) (by kernel_rfl) (by simp) ?_
                refine (AllReadyH.cons (o := _) rfl (fun K hK => ?_) (AllReadyH.cons (o := _) rfl (fun K hK => ?_) AllReadyH.nil))
                · skip
                  have p8 := HMD.out.cells.2.2.1
                  go_simp
                  refine hK.out _ _ hHeld (fun hHeld => ?_)
                  clear p8
                  clear hK K
                  try simp only [zpA, zpB, zpC, zpD, zpE]
                  refine wpAnyH_ready (rs := [11]) (by kernel_rfl) (by simp) ?_
                  refine (AllReadyH.cons (o := _) rfl (fun K hK => ?_) AllReadyH.nil)
                  go_simp
                  have c9 : Below V4.heap.size V4 (V4.alloc (.cells #[.int .u64 (cutP X.ty N : Int)] 22)) := (Below.refl _ _).alloc (Nat.le_refl _) _
                  have hn9 := news_at V4 #[.int .u64 (cutP X.ty N : Int)] 22 [.int .u64 (cutP X.ty N : Int)] rfl
                  generalize hg9 : V4.heap.size = g9 at hn9 ⊢
                  obtain ⟨V5, hV9⟩ : ∃ V, V4.alloc (.cells #[.int .u64 (cutP X.ty N : Int)] 22) = V := ⟨_, rfl⟩
                  rw [hV9] at hn9 c9 ⊢
                  have HNW := Lib.hid hn9
                  have c9 : Below V4.heap.size V4 V5 := by rw [← hV9]; exact (Below.refl _ _).alloc (Nat.le_refl _) _
                  have hS9 : HeldG xb X V5 := heldG_later c9 hHeld
                  replace HPBX := Lib.hid ((c9.block _ (Array.getElem?_eq_some_iff.1 HPBX.out).1).trans HPBX.out)
                  replace HMD := Lib.hid (HMD.out.later c9)
                  refine hK.out _ _ hS9 (fun hHeld => ?_)
                  clear hS9 c9 hg9 hV9 hn9
                  clear hK K
                  try simp only [zpA, zpB, zpC, zpD, zpE]
                  refine wpAnyH_ready (rs := [12]) (by kernel_rfl) (by simp) ?_
                  refine (AllReadyH.cons (o := _) rfl (fun K hK => ?_) AllReadyH.nil)
                  have ho0 := HMD.out.ma.glob
                  rw [HTL.out] at ho0
                  refine step_append_own2 _ (by rfl) _ _ _ (by rfl) KM.w0.heap.size 22 i0 (.int .u64 0) 1 8 Tryz.underlying46 hi9 hz0 hz1 hz2 rfl (by decide) KM.gv k (natsV ((globL m).take k)) (by rfl) ho0 ⟨g9, 0, none⟩ 1 1 [.int .u64 (cutP X.ty N : Int)] (by rfl) rfl HNW.out (one_nat _) (by decide) (by have := HLEN.out.2.1; unfold maxLen; omega) (by have := HLEN.out.2.1; omega) (by have h1 := HMD.out.ma.lt; have h2 := HMD.out.ma.wB; omega) ?_
                  intro ga9 cap9 V6 hown hgrow hnb
                  have hfz := HMD.out.cells.2.2.2.1 8
                  have p8 := HMD.out.cells.2.2.1
                  have hRl := HMD.out.cells.2.2.2.2
                  have hneR : KM.gv.ownBlock ≠ some R := by have h1 := HMD.out.ma.box; rw [HMD.out.R] at h1; exact kind_ne HMD.out.ma.glob h1 (by decide)
                  have hblk : V6.heap[R]? = V5.heap[R]? := hgrow.block R hRl (Ne.symm hneR)
                  have cz : V6.cell? ⟨R, 8, none⟩ = some KM.gv := (World.cell?_of_block (a := ⟨R, 8, none⟩) hblk).trans p8
                  have fz : V6.frozen? ⟨R, 8, none⟩ = false := (World.frozen?_of_block (a := ⟨R, 8, none⟩) hblk).trans hfz
                  have HGL := Lib.hid (HMD.out.glob (l := (globL m).take (k + 1)) hgrow (by rw [HTK.out, natsV_snoc, List.length_append, HTL.out]; exact hown) hnb (fun j hj => (hown.lt j hj).2))
                  have hS9 : HeldG xb X V6 := heldG_of ((hgrow.block xb (Array.getElem?_eq_some_iff.1 hHeld.1).1 (Ne.symm (kind_ne HMD.out.ma.glob hHeld.1 (by decide)))).trans hHeld.1)
                  have HRB := Lib.hid (show xb ≠ R from fun e => by have h1 := HMD.out.ma.box; rw [HMD.out.R, ← e, hHeld.1] at h1; simp at h1)
                  refine hK.out _ _ hS9 (fun hHeld => ?_)
                  clear hS9 hown hgrow hnb hfz p8 hblk hneR ho0
                  clear hK K
                  try simp only [zpA, zpB, zpC, zpD, zpE]
                  refine ty 13 (some 87) (h := ?_)
                  try simp only [zpA, zpB, zpC, zpD, zpE]
                  refine ty 14 (some 88) (h := ?_)
                  try simp only [zpA, zpB, zpC, zpD, zpE]
                  refine wpAnyH_ready (rs := [15]) (by kernel_rfl) (by simp) ?_
                  refine (AllReadyH.cons (o := _) rfl (fun K hK => ?_) AllReadyH.nil)
                  obtain ⟨V9, hV9⟩ : ∃ V, V6.setCell ⟨R, 8, none⟩ (.slice (some ⟨ga9, 0, none⟩) (k + 1) cap9) = V := ⟨_, rfl⟩
                  obtain ⟨y1, y2⟩ := HGL.out V9 hV9
                  have HY1 := Lib.hid y1
                  have HY2 := Lib.hid (y2 _ HPBX.out)
                  go_simp
                  try rw [hV9]
                  have hS9 : HeldG xb X V9 := heldG_of (by rw [← hV9]; exact (Below.heap_setCell _ _ _ _ HRB.out).trans hHeld.1)
                  refine hK.out _ _ hS9 (fun hHeld => ?_)
                  clear hS9 y1 y2 hV9 cz fz
                  clear hK K
                  try simp only [zpA, zpB, zpC, zpD, zpE]
                  refine wpAnyH_done (by kernel_rfl) ?_ _
                  clear hHeld
                  go_wp2_with fail
                  go_roundw
                  case rel => exact ⟨k + 1, _, lo, by omega, by go_num, HY1.out, HY2.out⟩
                  case measure => simp [intOf]; omega
                · skip
                  go_simp
                  have c9 : Below V4.heap.size V4 (V4.alloc (.cells #[.int .u64 (cutP X.ty N : Int)] 22)) := (Below.refl _ _).alloc (Nat.le_refl _) _
                  have hn9 := news_at V4 #[.int .u64 (cutP X.ty N : Int)] 22 [.int .u64 (cutP X.ty N : Int)] rfl
                  generalize hg9 : V4.heap.size = g9 at hn9 ⊢
                  obtain ⟨V7, hV9⟩ : ∃ V, V4.alloc (.cells #[.int .u64 (cutP X.ty N : Int)] 22) = V := ⟨_, rfl⟩
                  rw [hV9] at hn9 c9 ⊢
                  have HNW := Lib.hid hn9
                  have c9 : Below V4.heap.size V4 V7 := by rw [← hV9]; exact (Below.refl _ _).alloc (Nat.le_refl _) _
                  have hS9 : HeldG xb X V7 := heldG_later c9 hHeld
                  replace HPBX := Lib.hid ((c9.block _ (Array.getElem?_eq_some_iff.1 HPBX.out).1).trans HPBX.out)
                  replace HMD := Lib.hid (HMD.out.later c9)
                  refine hK.out _ _ hS9 (fun hHeld => ?_)
                  clear hS9 c9 hg9 hV9 hn9
                  clear hK K
                  try simp only [zpA, zpB, zpC, zpD, zpE]
                  refine wpAnyH_ready (rs := [4]) (by kernel_rfl) (by simp) ?_
                  refine (AllReadyH.cons (o := _) rfl (fun K hK => ?_) AllReadyH.nil)
                  have p8 := HMD.out.cells.2.2.1
                  go_simp
                  refine hK.out _ _ hHeld (fun hHeld => ?_)
                  clear p8
                  clear hK K
                  try simp only [zpA, zpB, zpC, zpD, zpE]
                  refine wpAnyH_ready (rs := [12]) (by kernel_rfl) (by simp) ?_
                  refine (AllReadyH.cons (o := _) rfl (fun K hK => ?_) AllReadyH.nil)
                  have ho0 := HMD.out.ma.glob
                  rw [HTL.out] at ho0
                  refine step_append_own2 _ (by rfl) _ _ _ (by rfl) KM.w0.heap.size 22 i0 (.int .u64 0) 1 8 Tryz.underlying46 hi9 hz0 hz1 hz2 rfl (by decide) KM.gv k (natsV ((globL m).take k)) (by rfl) ho0 ⟨g9, 0, none⟩ 1 1 [.int .u64 (cutP X.ty N : Int)] (by rfl) rfl HNW.out (one_nat _) (by decide) (by have := HLEN.out.2.1; unfold maxLen; omega) (by have := HLEN.out.2.1; omega) (by have h1 := HMD.out.ma.lt; have h2 := HMD.out.ma.wB; omega) ?_
                  intro ga9 cap9 V8 hown hgrow hnb
                  have hfz := HMD.out.cells.2.2.2.1 8
                  have p8 := HMD.out.cells.2.2.1
                  have hRl := HMD.out.cells.2.2.2.2
                  have hneR : KM.gv.ownBlock ≠ some R := by have h1 := HMD.out.ma.box; rw [HMD.out.R] at h1; exact kind_ne HMD.out.ma.glob h1 (by decide)
                  have hblk : V8.heap[R]? = V7.heap[R]? := hgrow.block R hRl (Ne.symm hneR)
                  have cz : V8.cell? ⟨R, 8, none⟩ = some KM.gv := (World.cell?_of_block (a := ⟨R, 8, none⟩) hblk).trans p8
                  have fz : V8.frozen? ⟨R, 8, none⟩ = false := (World.frozen?_of_block (a := ⟨R, 8, none⟩) hblk).trans hfz
                  have HGL := Lib.hid (HMD.out.glob (l := (globL m).take (k + 1)) hgrow (by rw [HTK.out, natsV_snoc, List.length_append, HTL.out]; exact hown) hnb (fun j hj => (hown.lt j hj).2))
                  have hS9 : HeldG xb X V8 := heldG_of ((hgrow.block xb (Array.getElem?_eq_some_iff.1 hHeld.1).1 (Ne.symm (kind_ne HMD.out.ma.glob hHeld.1 (by decide)))).trans hHeld.1)
                  have HRB := Lib.hid (show xb ≠ R from fun e => by have h1 := HMD.out.ma.box; rw [HMD.out.R, ← e, hHeld.1] at h1; simp at h1)
                  refine hK.out _ _ hS9 (fun hHeld => ?_)
                  clear hS9 hown hgrow hnb hfz p8 hblk hneR ho0
                  clear hK K
                  try simp only [zpA, zpB, zpC, zpD, zpE]
                  refine ty 13 (some 87) (h := ?_)
                  try simp only [zpA, zpB, zpC, zpD, zpE]
                  refine ty 14 (some 88) (h := ?_)
                  try simp only [zpA, zpB, zpC, zpD, zpE]
                  refine wpAnyH_ready (rs := [15]) (by kernel_rfl) (by simp) ?_
                  refine (AllReadyH.cons (o := _) rfl (fun K hK => ?_) AllReadyH.nil)
                  obtain ⟨V9, hV9⟩ : ∃ V, V8.setCell ⟨R, 8, none⟩ (.slice (some ⟨ga9, 0, none⟩) (k + 1) cap9) = V := ⟨_, rfl⟩
                  obtain ⟨y1, y2⟩ := HGL.out V9 hV9
                  have HY1 := Lib.hid y1
                  have HY2 := Lib.hid (y2 _ HPBX.out)
                  go_simp
                  try rw [hV9]
                  have hS9 : HeldG xb X V9 := heldG_of (by rw [← hV9]; exact (Below.heap_setCell _ _ _ _ HRB.out).trans hHeld.1)
                  refine hK.out _ _ hS9 (fun hHeld => ?_)
                  clear hS9 y1 y2 hV9 cz fz
                  clear hK K
                  try simp only [zpA, zpB, zpC, zpD, zpE]
                  refine wpAnyH_done (by kernel_rfl) ?_ _
                  clear hHeld
                  go_wp2_with fail
                  go_roundw
                  case rel => exact ⟨k + 1, _, lo, by omega, by go_num, HY1.out, HY2.out⟩
                  case measure => simp [intOf]; omega
            · obtain rfl : k = m.globals.length := by omega
              have hd : decide (m.globals.length < m.globals.length) = false := by simp
              have HMG := Lib.hid (show Mid w wr m R KM lo L (globL m) from by
                have h9 := HMD.out
                rw [List.take_of_length_le (by simp [globL])] at h9
                exact h9)
              obtain ⟨q0, q1, q2, q3, q4, q5, q6⟩ := HQ.out _ HPBX.out
              go_wp2_with fail
              clear q0 q1 q2 q3 q4 q5 q6 hd HMD
              obtain ⟨WC, rfl⟩ : ∃ WC, WC = wr := ⟨_, rfl⟩
              go_loopw [93] (fun q wr => ∃ k : Nat, k ≤ m.funcs.length ∧ q = .int .i64 (k : Int) ∧ Mid w wr m R KM lo L (globL m)) (fun q _ => m.funcs.length - (intOf q).toNat)
              case atStart => exact ⟨0, Nat.zero_le _, rfl, HMG.out⟩
              case round =>
                clear HMG
                obtain ⟨k, hk, rfl, hmid⟩ := hrel
                have HMD := Lib.hid hmid
                clear hmid
                by_cases hlt : k < m.funcs.length
                · obtain ⟨F, hF⟩ : ∃ F, m.funcs[k]? = some F := ⟨_, List.getElem?_eq_getElem hlt⟩
                  have hd : decide (k < m.funcs.length) = true := decide_eq_true hlt
                  have hfl := HFLAT.out F (List.mem_of_getElem? hF)
                  have hfs : FuncsAt wr KM.f m.funcs := by
                    have h9 := HMD.out.ma.mod.funcs
                    rw [HMD.out.mm] at h9
                    exact ListAt.later lasts_func h9 HMD.out.ma.old
                  have HB := Lib.hid (blocks_flat wr R KM.f m.funcs HMD.out.cells.1 hfs HLEN.out.1 k F hF hfl.1 hfl.2)
                  clear hF hfl hfs
                  go_wp2_with fail
                  refine HB.out.mono ?_
                  rintro e W9 ⟨rfl, b9⟩
                  have HMD9 := Lib.hid (HMD.out.later b9)
                  clear b9 HB
                  go_wp2_with fail
                  go_roundw
                  case rel => exact ⟨k + 1, by omega, by go_num, HMD9.out⟩
                  case measure => simp [intOf]; omega
                · obtain rfl : k = m.funcs.length := by omega
                  have hd : decide (m.funcs.length < m.funcs.length) = false := by simp
                  go_wp2_with fail
                  go_ret2
                  exact post_some HLO.out ⟨KM, lo, by rw [HMD.out.R]; rfl, HMD.out.ma, HMD.out.mm, HMD.out.low.1, HMD.out.low.2.1, HMD.out.mem, HMD.out.bel⟩
end Go.Proofs.YtmbgemcddjailaaGreatDoor.Run
