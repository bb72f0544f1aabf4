/-
  RegTake, RegShort, RunG, RunH in one.
-/
import Derived.WalkKit
import Derived.Deep.RegionHeld3
import Derived.Test.YtmbgemcddjailaaGreatDoorProg
import Derived.WalkSpells
import Derived.WalkLawsBesides
import Derived.IntWalk
import Derived.Test.YtmbgemcddjailaaGreatDoorRnD
import Derived.OwnWalk
/- RegTake: A region that draws, one operation after another: what is not wanted is passed over, what only reads is taken first. Plain but for the model's regions. -/
namespace Go.Proofs.YtmbgemcddjailaaGreatDoor
open Go.RowKit
section
variable {P : Program} {ops : Array Oper} {Q : Exit → Act → World → Prop} {md : Region.Mode} {S : World → Prop}
theorem take_yes {i : Nat} {d : Option Tmp} {oi : Oper} {v : Value} {fuel : Nat} {listed : Array Bool} {a : Act} {w : World} (hi : ops[i]? = some oi)
    (hs : Region.noSelect ops = true) (hf : Region.free md ops listed i = true) (hr : (Region.ready md ops listed).contains i = true) (hd : oi.dst = d)
    (hQ : ∀ c (a : Act) w, Q (.panic c) (a.put d v) w → Q (.panic c) a w) (hw : Region.wanted oi (yielded ops a.tmps) = true) (hS : S w)
    (hy : ∀ w, S w → (execOp a.eval oi).run P w = .ok (.value v) w)
    (h : wpAnyH P md ops Q S fuel (listed.setIfInBounds i true) (a.put d v) w) : wpAnyH P md ops Q S (fuel + 1) listed a w := by
  subst hd
  exact wpAnyH_take hi hs hf hr hQ (Or.inl ⟨hw, hy⟩) hS h
theorem take_no {i : Nat} {d : Option Tmp} {oi : Oper} {fuel : Nat} {listed : Array Bool} {a : Act} {w : World} (hi : ops[i]? = some oi)
    (hs : Region.noSelect ops = true) (hf : Region.free md ops listed i = true) (hr : (Region.ready md ops listed).contains i = true) (hd : oi.dst = d)
    (hQ : ∀ c (a : Act) w, Q (.panic c) (a.put d undef) w → Q (.panic c) a w) (hw : Region.wanted oi (yielded ops a.tmps) = false) (hS : S w)
    (h : wpAnyH P md ops Q S fuel (listed.setIfInBounds i true) (a.put d undef) w) : wpAnyH P md ops Q S (fuel + 1) listed a w := by
  subst hd
  exact wpAnyH_take hi hs hf hr hQ (Or.inr ⟨hw, rfl⟩) hS h
end
end Go.Proofs.YtmbgemcddjailaaGreatDoor

/- RegShort: RegTake's laws in few words: what each asks is shown by default. Plain but for the model's regions. -/
namespace Go.Proofs.YtmbgemcddjailaaGreatDoor
open Go.RowKit
section
variable {P : Program} {ops : Array Oper} {Q : Exit → Act → World → Prop} {md : Region.Mode} {S : World → Prop}
theorem ty (i : Nat) (d : Option Tmp) {oi : Oper} {v : Value} {fuel : Nat} {listed : Array Bool} {a : Act} {w : World} (hi : ops[i]? = some oi := by rfl)
    (hs : Region.noSelect ops = true := by kernel_rfl) (hf : Region.free md ops listed i = true := by kernel_rfl) (hr : (Region.ready md ops listed).contains i = true := by kernel_rfl) (hd : oi.dst = d := by rfl)
    (hQ : ∀ c (a : Act) w, Q (.panic c) (a.put d v) w → Q (.panic c) a w := by exact fun _ _ _ h => h) (hw : Region.wanted oi (yielded ops a.tmps) = true := by rfl) (hS : S w := by assumption)
    (hy : ∀ w, S w → (execOp a.eval oi).run P w = .ok (.value v) w := by (intro w hSw; (try dsimp only at hSw); go_simp; try with_reducible rfl))
    (h : wpAnyH P md ops Q S fuel (listed.setIfInBounds i true) (a.put d v) w) : wpAnyH P md ops Q S (fuel + 1) listed a w := take_yes hi hs hf hr hd hQ hw hS hy h
theorem tn (i : Nat) (d : Option Tmp) {oi : Oper} {fuel : Nat} {listed : Array Bool} {a : Act} {w : World} (hi : ops[i]? = some oi := by rfl)
    (hs : Region.noSelect ops = true := by kernel_rfl) (hf : Region.free md ops listed i = true := by kernel_rfl) (hr : (Region.ready md ops listed).contains i = true := by kernel_rfl) (hd : oi.dst = d := by rfl)
    (hQ : ∀ c (a : Act) w, Q (.panic c) (a.put d undef) w → Q (.panic c) a w := by exact fun _ _ _ h => h) (hw : Region.wanted oi (yielded ops a.tmps) = false := by rfl) (hS : S w := by assumption)
    (h : wpAnyH P md ops Q S fuel (listed.setIfInBounds i true) (a.put d undef) w) : wpAnyH P md ops Q S (fuel + 1) listed a w := take_no hi hs hf hr hd hQ hw hS h
end
theorem zpA (a : Act) (i : Tmp) (v : Value) : a.put (some i) v = { a with tmps := a.tmps.setIfInBounds i v } := rfl
theorem zpB (a : Act) (v : Value) : a.put none v = a := rfl
theorem zpC {α : Type} (l : List α) (i : Nat) (a : α) : l.toArray.setIfInBounds i a = (l.set i a).toArray := List.setIfInBounds_toArray l i a
theorem zpD {α : Type} (x : α) (l : List α) (a : α) : (x :: l).set 0 a = a :: l := rfl
theorem zpE {α : Type} (x : α) (l : List α) (i : Nat) (a : α) : (x :: l).set (i + 1) a = x :: l.set i a := rfl
end Go.Proofs.YtmbgemcddjailaaGreatDoor

/- RunG: What enter does for a new thread. No condition beyond what each theorem names. -/
namespace Go.Proofs.YtmbgemcddjailaaGreatDoor.Run
open Go.RowKit Go.Maps Go.Proofs.YtmbgemcddjailaaGreatDoor.Op Go.Proofs.YtmbgemcddjailaaGreatDoor.Mod
set_option linter.unusedVariables false
set_option linter.unusedSimpArgs false
theorem index_str (s : ByteArray) (j : Nat) (x : UInt8) (hx : s.data.toList[j]? = some x) (W : World) : (Instr.index 9 (.string s) (.int .i64 (j : Int))).run Tryz.prog W = .ok (.int .u8 (x.toNat : Int)) W := by
  have hj : j < s.size := (List.getElem?_eq_some_iff.1 hx).1
  rw [run_index_string _ _ _ _ _ Tryz.underlying9, dif_pos ⟨by omega, by omega⟩]
  have h2 : s[((j : Int)).toNat]'(by simpa using hj) = x := by
    have h3 := (List.getElem?_eq_some_iff.1 hx).2
    rw [← h3]
    rfl
  rw [h2]
def zeroFm : Value := .agg #[.int .i64 0, .slice none 0 0, .int .i64 0, .slice none 0 0, .int .i64 0, .int .i64 0, .slice none 0 0]
theorem info_frame : (Tryz.prog.info? 123).map (fun i => (i.zero, i.size, i.bytes)) = some (some zeroFm, 7, 104) := by kernel_rfl
/-- the locals' row, k of them laid, or one more -/
def LocS (B lb : Nat) (ps : List UInt8) (av : List Nat) (n k : Nat) (W : World) : Prop := W.ownsRow B 22 1 (.slice (some ⟨lb, 0, none⟩) n n) n (natsV (locF ps av n k)) ∨ W.ownsRow B 22 1 (.slice (some ⟨lb, 0, none⟩) n n) n (natsV (locF ps av n (k + 1)))
theorem LocS.of {B lb : Nat} {ps : List UInt8} {av : List Nat} {n k : Nat} {W W' : World} (h : LocS B lb ps av n k W) (he : W'.heap[lb]? = W.heap[lb]?) : LocS B lb ps av n k W' := by
  have e : ∀ j, (Value.slice (some ⟨lb, 0, none⟩) n n).ownBlock = some j → W'.heap[j]? = W.heap[j]? := fun j hj => by
    have : lb = j := by simpa [Value.ownBlock] using hj
    rw [← this]; exact he
  exact h.imp (fun h => ownsRow_of h e) (fun h => ownsRow_of h e)
theorem LocS.lt {B lb : Nat} {ps : List UInt8} {av : List Nat} {n k : Nat} {W : World} (h : LocS B lb ps av n k W) : lb < W.heap.size := h.elim (fun h => (h.lt lb rfl).2) (fun h => (h.lt lb rfl).2)
theorem LocS.put {B lb : Nat} {ps : List UInt8} {av : List Nat} {n k : Nat} {W : World} (h : LocS B lb ps av n k W) (hk : k < n) : (∃ v, W.cell? ⟨lb, k, none⟩ = some v) ∧ W.frozen? ⟨lb, k, none⟩ = false ∧ (W.setCell ⟨lb, k, none⟩ (.int .u64 (cutP ((ps.getD k 0).toNat : Int) (av.getD k 0) : Int))).ownsRow B 22 1 (.slice (some ⟨lb, 0, none⟩) n n) n (natsV (locF ps av n (k + 1))) := by
  have cell : ∀ l : List Nat, l.length = n → W.ownsRow B 22 1 (.slice (some ⟨lb, 0, none⟩) n n) n (natsV l) → ∃ v, W.cell? ⟨lb, k, none⟩ = some v := fun l hl h => by
    rw [h.cellAt k (by omega)]
    exact ⟨_, List.getElem?_eq_getElem (by simp [natsV]; omega)⟩
  rcases h with h | h
  · refine ⟨cell _ (locF_len _ _ _ _) h, h.frozenAt k, ?_⟩
    rw [locF_succ, natsV_set]
    exact (h.stored k _).1
  · refine ⟨cell _ (locF_len _ _ _ _) h, h.frozenAt k, ?_⟩
    have e : locF ps av n (k + 1) = (locF ps av n (k + 1)).set k (cutP ((ps.getD k 0).toNat : Int) (av.getD k 0)) := by
      rw [locF_succ, List.set_set]
    rw [e, natsV_set]
    exact (h.stored k _).1
abbrev HeldE (w : World) (B tb kb sb lb : Nat) (S : ByteArray) (sn sc : Nat) (av : List Nat) (n k : Nat) (a : Nat) (W : World) : Prop :=
  W.cell? ⟨kb, 0, none⟩ = some (.string S) ∧ W.cell? ⟨tb, 1, none⟩ = some (.slice (some ⟨sb, 0, none⟩) sn sc) ∧ W.cell? ⟨sb, k, none⟩ = some (.int .u64 (a : Int)) ∧ LocS B lb S.data.toList av n k W ∧ Keeps (fun j => j = lb) w W
theorem heldE_later {w : World} {B tb kb sb lb : Nat} {S : ByteArray} {sn sc : Nat} {av : List Nat} {n k a : Nat} {W W' : World} (c : Below W.heap.size W W') (h : HeldE w B tb kb sb lb S sn sc av n k a W) : HeldE w B tb kb sb lb S sn sc av n k a W' :=
  ⟨cell_later c h.1, cell_later c h.2.1, cell_later c h.2.2.1, h.2.2.2.1.of (c.block _ h.2.2.2.1.lt), h.2.2.2.2.trans (Keeps.of_below c) (fun j hj => .inl hj)⟩
theorem enter_done {w W4 wr W6 w1 : World} {B tb sb lb cap n g' cap' fuel f cn cc rz : Nat} {ca : Option Addr} {K : Mk} {gs av l : List Nat} {FC : List Value} {cs0 : Array Value} (hM : MAt w B K gs) (hbox : w.heap[tb]? = some (.cells cs0 81 (0, 0)))
    (hst : w.ownsRow B 22 1 (.slice (some ⟨sb, 0, none⟩) av.length cap) av.length (natsV av)) (e4 : Below w.heap.size w W4)
    (hrow : wr.ownsRow B 22 1 (.slice (some ⟨lb, 0, none⟩) n n) n (natsV l)) (hl : l.length = n) (k1 : Keeps (fun j => j = lb) W4 wr) (k6 : Keeps (fun j => j = tb) wr W6)
    (hgr : W6.grownBy w1 (Value.slice none 0 0).ownBlock) (how : w1.ownsRow B 123 7 (.slice (some ⟨g', 0, none⟩) 1 cap') 1 FC)
    (hfc : FC = [.int .i64 (f : Int), .slice ca cn cc, .int .i64 0, .slice (some ⟨lb, 0, none⟩) n n, .int .i64 0, .int .i64 (rz : Int), .slice none 0 0]) (hnb : newBlock (.slice none 0 0) (.slice (some ⟨g', 0, none⟩) 1 cap') W6)
    (hb1 : w1.heap[tb]? = some (.cells #[.pointer (some ⟨K.R, 0, none⟩), .slice (some ⟨sb, 0, none⟩) 0 cap, .slice none 0 0, .int .i64 (fuel : Int), .int .i64 0] 81 (0, 0))) (htb : B ≤ tb) (htl : tb < w.heap.size) (hlw : w.heap.size ≤ lb) (hsl : sb < lb) :
    SAt (w1.setCell ⟨tb, 2, none⟩ (.slice (some ⟨g', 0, none⟩) 1 cap')) B tb K gs ⟨.pointer (some ⟨K.R, 0, none⟩), (f : Int), .slice ca cn cc, 0, rz, g', cap', .slice (some ⟨lb, 0, none⟩) n n⟩ ⟨.slice (some ⟨sb, 0, none⟩) 0 cap, .slice none 0 0⟩ ⟨[], 0, l, [], fuel, 0⟩ ∧ Keeps (fun j => j = tb ∨ j = sb) w (w1.setCell ⟨tb, 2, none⟩ (.slice (some ⟨g', 0, none⟩) 1 cap')) := by
  have kg : Keeps (fun j => j = tb) W6 w1 := Keeps.grown hgr (fun k hk => by simp [Value.ownBlock] at hk)
  have ks : Keeps (fun j => j = tb) w1 (w1.setCell ⟨tb, 2, none⟩ (.slice (some ⟨g', 0, none⟩) 1 cap')) := Keeps.setCell (F := fun j => j = tb) _ _ _ rfl
  have kr : Keeps (fun j => j = tb) wr (w1.setCell ⟨tb, 2, none⟩ (.slice (some ⟨g', 0, none⟩) 1 cap')) := (k6.trans kg (fun j hj => .inl hj)).trans ks (fun j hj => .inl hj)
  have k4 : Keeps (fun j => j = lb ∨ j = tb) W4 (w1.setCell ⟨tb, 2, none⟩ (.slice (some ⟨g', 0, none⟩) 1 cap')) := (show Keeps (fun j => j = lb ∨ j = tb) W4 wr from ⟨k1.os, k1.tape, k1.output, k1.size, fun j hj hf => k1.block j hj (fun e => hf (.inl e))⟩).trans kr (fun j hj => .inl (.inr hj))
  have kF : Keeps (fun j => j = tb) w (w1.setCell ⟨tb, 2, none⟩ (.slice (some ⟨g', 0, none⟩) 1 cap')) := (Keeps.of_below e4).trans k4 (fun j hj => hj.elim (fun e => .inr (e ▸ hlw)) .inl)
  have hsb := hst.lt sb rfl
  have hst0 : sb ≠ tb := fun e => kind_ne hst hbox (by decide) (by rw [e]; rfl)
  have htw6 : tb < W6.heap.size := Nat.lt_of_lt_of_le htl (Nat.le_trans e4.size (Nat.le_trans k1.size k6.size))
  have hgt : g' ≠ tb := fun e => by
    rcases hnb g' rfl with h | h
    · simp [Value.ownBlock] at h
    · omega
  have hlt : lb ≠ tb := by omega
  have hcut := nats_cut (m := 0) hst (Nat.zero_le _)
  refine ⟨⟨⟨?_, htb, ?_, ?_, ?_, World.ownsRow_nil _ _ _ _, ?_⟩, hM.under (kF.below (fun j hj => hj ▸ htb) hM.wB), rfl⟩, ⟨kF.os, kF.tape, kF.output, kF.size, fun j hj hf => kF.block j hj (fun e => hf (.inl e))⟩⟩
  · rw [box_set hb1]
    rfl
  · have h9 : (w1.setCell ⟨tb, 2, none⟩ (.slice (some ⟨g', 0, none⟩) 1 cap')).ownsRow B 123 7 (.slice (some ⟨g', 0, none⟩) 1 cap') 1 FC := ownsRow_of how (fun j hj => Below.heap_setCell _ _ _ _ (by
      have e : g' = j := by simpa [Value.ownBlock] using hj
      rw [← e]
      exact hgt))
    rw [hfc] at h9
    exact h9
  · exact ownsRow_of hcut (fun j hj => by
      have e : sb = j := by simpa [Value.ownBlock] using hj
      rw [← e]
      exact kF.block sb hsb.2 hst0)
  · show World.ownsRow _ _ _ _ _ l.length (natsV l)
    rw [hl]
    exact ownsRow_of hrow (fun j hj => by
      have e : lb = j := by simpa [Value.ownBlock] using hj
      rw [← e]
      exact kr.block lb (hrow.lt lb rfl).2 hlt)
  · intro j hj hq
    have e1 : sb = j := by simpa [Value.ownBlock] using hj
    have e2 : lb = j := by simpa [Value.ownBlock] using hq
    omega
set_option maxRecDepth 100000 in
set_option maxHeartbeats 8000000 in
theorem enter_new (w : World) (B tb : Nat) (K : Mk) (gs : List Nat) (hM : MAt w B K gs) (sb cap fuel : Nat) (av : List Nat) (h0 : 0 < av.length) (hsm : av.length ≤ 1000) (has : ∀ a ∈ av, a < 18446744073709551616) (hfu : fuel ≤ 1000000000)
    (hbox : w.heap[tb]? = some (.cells #[.pointer (some ⟨K.R, 0, none⟩), .slice (some ⟨sb, 0, none⟩) av.length cap, .slice none 0 0, .int .i64 (fuel : Int), .int .i64 0] 81 (0, 0))) (htb : B ≤ tb)
    (hst : w.ownsRow B 22 1 (.slice (some ⟨sb, 0, none⟩) av.length cap) av.length (natsV av))
    (f : Nat) (F : FuncP) (hF : K.m.funcs[f]? = some F) (i : Nat) (hi : F.ty = (i : Int)) (T : FT) (hT : K.m.types[i]? = some T) (hP : T.params.size = av.length) (hL : F.locals.size ≤ 10000) (hR : T.results.size ≤ 10) (hm1 : K.m.funcs.length ≤ 100000) (hm2 : K.m.types.length ≤ 100000) :
    Calls Tryz.prog 20 #[.pointer (some ⟨tb, 0, none⟩), .int .i64 (f : Int)] w fun e w' => e = .returned (.tuple #[]) ∧ ∃ E x, SAt w' B tb K gs E x ⟨[], 0, locF T.params.data.toList av (av.length + F.locals.size) av.length, [], fuel, 0⟩ ∧ E.height = 0 ∧ E.many = T.results.size ∧ CodeAt K.w0 E.cv F.code ∧ Keeps (fun j => j = tb ∨ j = sb) w w' := by
  obtain ⟨fa, fc, hfv, _, hfat⟩ := hM.mod.funcs.form
  obtain ⟨ta, tc, htv, _, htat⟩ := hM.mod.types.form
  obtain ⟨rf, ⟨cv, hrf, hcode, _⟩, _, fb, fo, hfa, hfb, hfc⟩ := hfat f F hF
  obtain ⟨rt, ⟨hrt, _⟩, _, tyb, tyo, hta, htyb, htc⟩ := htat i T hT
  obtain ⟨ca, cc, hcv, _, _⟩ := hcode.form
  subst hfa hta hcv
  rw [hrf] at hfc
  rw [hrt] at htc
  have hfl := (List.getElem?_eq_some_iff.1 hF).1
  have htl := (List.getElem?_eq_some_iff.1 hT).1
  have k0 : w.cell? ⟨fb, fo + f * 3, none⟩ = some (.int .i64 (i : Int)) := by rw [← hi]; exact cell_later hM.old (hfc 0 _ rfl)
  have k1 : w.cell? ⟨fb, fo + f * 3 + 1, none⟩ = some (.string F.locals) := cell_later hM.old (hfc 1 _ rfl)
  have k2 : w.cell? ⟨fb, fo + f * 3 + 2, none⟩ = some (.slice ca F.code.length cc) := cell_later hM.old (hfc 2 _ rfl)
  have p0 : w.cell? ⟨tyb, tyo + i * 2, none⟩ = some (.string T.params) := cell_later hM.old (htc 0 _ rfl)
  have p1 : w.cell? ⟨tyb, tyo + i * 2 + 1, none⟩ = some (.string T.results) := cell_later hM.old (htc 1 _ rfl)
  obtain ⟨m0, m1, _⟩ := hM.cells
  rw [htv] at m0
  rw [hfv] at m1
  have b0 : w.cell? ⟨tb, 0, none⟩ = some (.pointer (some ⟨K.R, 0, none⟩)) := cell_of_row w tb _ _ _ _ hbox
  have b1 : w.cell? ⟨tb, 1, none⟩ = some (.slice (some ⟨sb, 0, none⟩) av.length cap) := cell_of_row w tb _ _ _ _ hbox
  have b2 : w.cell? ⟨tb, 2, none⟩ = some (.slice none 0 0) := cell_of_row w tb _ _ _ _ hbox
  have htbl : tb < w.heap.size := (Array.getElem?_eq_some_iff.1 hbox).1
  have hi0 : (0 : Int) ≤ (f : Int) := by omega
  have hi1 : (f : Int) < (K.m.funcs.length : Int) := by omega
  have hj0 : (0 : Int) ≤ (i : Int) := by omega
  have hj1 : (i : Int) < (K.m.types.length : Int) := by omega
  have HM := Lib.hid hM
  have HBOX := Lib.hid hbox
  have HST := Lib.hid hst
  have HCODE := Lib.hid hcode
  have HTP := Lib.hid hP
  have HAS := Lib.hid has
  obtain ⟨n, hn⟩ : ∃ n, av.length + F.locals.size = n := ⟨_, rfl⟩
  have HN := Lib.hid hn
  have hnn : n ≤ 11000 := by omega
  clear hM hbox hst hcode hn hP hi hfat htat hfc htc hF hT hrf hrt hfv htv has
  go_enter Tryz.func20, Tryz.ntmps20
  go_upto_region 3 with fail
  obtain ⟨W1, hW1⟩ : ∃ W1, w.alloc (.cells #[.int .i64 (i : Int), .string F.locals, .slice ca F.code.length cc] 32) = W1 := ⟨_, rfl⟩
  have e1 : Below w.heap.size w W1 := by rw [← hW1]; exact (Below.refl _ _).alloc (Nat.le_refl _) _
  have r1 : W1.heap[w.heap.size]? = some (.cells #[.int .i64 (i : Int), .string F.locals, .slice ca F.code.length cc] 32 (0, 0)) := by rw [← hW1]; exact heap_alloc_new _ _
  rw [hW1]
  replace p0 := cell_later e1 p0
  replace p1 := cell_later e1 p1
  replace m0 := cell_later e1 m0
  replace b0 := cell_later e1 b0
  replace b1 := cell_later e1 b1
  replace b2 := cell_later e1 b2
  have q0 : W1.cell? ⟨w.heap.size, 0, none⟩ = some (.int .i64 (i : Int)) := cell_of_row _ _ _ _ _ _ r1
  have E1 := Lib.hid e1
  have R1 := Lib.hid r1
  have z1 : w.heap.size < W1.heap.size := (Array.getElem?_eq_some_iff.1 r1).1
  have z2 : tyb < W1.heap.size := World.block_lt_of_cell? _ _ p0
  have z3 : tb < W1.heap.size := World.block_lt_of_cell? _ _ b0
  have z4 : K.R < W1.heap.size := World.block_lt_of_cell? _ _ m0
  clear hW1 k0 k1 k2 m1 e1 r1
  go_region
  all_goals
    go_upto_region 4 with fail
    obtain ⟨W2, hW2⟩ : ∃ W2, (W1.alloc (.cells #[.string T.params, .string T.results] 25)).drew = W2 := ⟨_, rfl⟩
    have e2 : Below W1.heap.size W1 W2 := by rw [← hW2]; exact ((Below.refl _ _).alloc (Nat.le_refl _) _).drew
    have r2 : W2.heap[W1.heap.size]? = some (.cells #[.string T.params, .string T.results] 25 (0, 0)) := by rw [← hW2]; exact heap_alloc_new _ _
    rw [hW2]
    replace b1 := cell_later e2 b1
    have E2 := Lib.hid (E1.out.trans (e2.mono E1.out.size))
    have R1 := Lib.hid ((e2.block _ (Array.getElem?_eq_some_iff.1 R1.out).1).trans R1.out)
    have R2 := Lib.hid r2
    have g0 : W2.cell? ⟨W1.heap.size, 0, none⟩ = some (.string T.params) := cell_of_row _ _ _ _ _ _ r2
    have hsub : IntKind.i64.wrap ((av.length : Int) - (T.params.size : Int)) = 0 := by rw [HTP.out, IntWalk.i64_in _ (by omega)]; omega
    have hadd : IntKind.i64.wrap ((T.params.size : Int) + (F.locals.size : Int)) = (n : Int) := by have h9 := HN.out; rw [HTP.out, IntWalk.i64_in _ (by omega)]; omega
    have hmk := make_nats n (by omega)
    have hq1 : w.heap.size < W2.heap.size := (Array.getElem?_eq_some_iff.1 R1.out).1
    have hq2 : W1.heap.size < W2.heap.size := (Array.getElem?_eq_some_iff.1 r2).1
    clear hW2 e2 r2 p0 p1 m0 b0 b2 q0
    go_wp2_with fail
    go_quiet (fail)
    obtain ⟨W3, hW3⟩ : ∃ W3, W2.drewN nq = W3 := ⟨_, rfl⟩
    have e3 : Below W2.heap.size W2 W3 := by rw [← hW3]; exact ⟨rfl, rfl, rfl, Nat.le_refl _, fun _ _ => rfl⟩
    rw [hW3]
    replace b1 := cell_later e3 b1
    replace g0 := cell_later e3 g0
    have E3 := Lib.hid (E2.out.trans (e3.mono E2.out.size))
    have R1 := Lib.hid ((e3.block _ (Array.getElem?_eq_some_iff.1 R1.out).1).trans R1.out)
    have R2 := Lib.hid ((e3.block _ (Array.getElem?_eq_some_iff.1 R2.out).1).trans R2.out)
    have f1 : W3.cell? ⟨w.heap.size, 1, none⟩ = some (.string F.locals) := cell_of_row _ _ _ _ _ _ R1.out
    have z5 : W2.heap.size ≤ W3.heap.size := e3.size
    clear hW3 e3
    go_upto_region 6 with fail
    obtain ⟨W4, hW4⟩ : ∃ W4, W3.alloc (.cells (Array.replicate n (Value.int .u64 0)) 22) = W4 := ⟨_, rfl⟩
    have e4 : Below W3.heap.size W3 W4 := by rw [← hW4]; exact (Below.refl _ _).alloc (Nat.le_refl _) _
    have r4 : W4.heap[W3.heap.size]? = some (.cells (Array.replicate n (Value.int .u64 0)) 22 (0, 0)) := by rw [← hW4]; exact heap_alloc_new _ _
    obtain ⟨lb, hlb⟩ : ∃ lb, W3.heap.size = lb := ⟨_, rfl⟩
    rw [hW4, hlb]
    rw [hlb] at r4
    have hwB := Nat.le_trans HM.out.wB E3.out.size
    have hloc : W4.ownsRow B 22 1 (.slice (some ⟨lb, 0, none⟩) n n) n (natsV (locF T.params.data.toList av n 0)) := by
      rw [locF_zero]
      refine ⟨by simp [natsV], .inr ⟨lb, n, _, rfl, by omega, r4, Nat.le_refl _, by unfold maxLen; omega, by simp, ?_⟩⟩
      simp [natsV, List.map_replicate]
    replace b1 := cell_later e4 b1
    replace g0 := cell_later e4 g0
    have E4 := Lib.hid (E3.out.trans (e4.mono E3.out.size))
    have R1 := Lib.hid ((e4.block _ (Array.getElem?_eq_some_iff.1 R1.out).1).trans R1.out)
    have R2 := Lib.hid ((e4.block _ (Array.getElem?_eq_some_iff.1 R2.out).1).trans R2.out)
    have HLOC := Lib.hid hloc
    have G0 := Lib.hid g0
    have B1 := Lib.hid b1
    have l1 : w.heap.size < lb := by omega
    have l2 : W1.heap.size < lb := by omega
    have l3 : tb < lb := by omega
    have l4 : sb < lb := by have := (HST.out.lt sb rfl).2; omega
    have hst4 := fun j (a : Nat) (ha : av[j]? = some a) => (show W4.cell? ⟨sb, j, none⟩ = some (.int .u64 (a : Int)) from by
      have hj := (List.getElem?_eq_some_iff.1 ha).1
      refine cell_later E4.out ?_
      rw [HST.out.cellAt j (by omega)]
      simp [natsV, ha])
    have HST4 := Lib.hid hst4
    clear hW4 r4 e4 hmk f1 hloc hsub hadd hst4 hlb b1 g0
    have g0 := G0.out
    go_upto_region 7 with fail
    clear g0
    go_loopw [61] (fun q wr => ∃ k : Nat, k ≤ av.length ∧ q = .int .i64 (k : Int) ∧ wr.ownsRow B 22 1 (.slice (some ⟨lb, 0, none⟩) n n) n (natsV (locF T.params.data.toList av n k)) ∧ Keeps (fun j => j = lb) W4 wr) (fun q _ => av.length - (intOf q).toNat)
    case atStart => exact ⟨0, Nat.zero_le _, rfl, HLOC.out, .refl _ _⟩
    case round =>
      obtain ⟨k, hk, rfl, hrow, hkeep⟩ := hrel
      have HROW := Lib.hid hrow
      have HKEEP := Lib.hid hkeep
      clear hrow hkeep
      by_cases hlt : k < av.length
      · obtain ⟨a, ha⟩ : ∃ a, av[k]? = some a := ⟨_, List.getElem?_eq_getElem hlt⟩
        obtain ⟨c, hc⟩ : ∃ c, T.params.data.toList[k]? = some c := ⟨_, List.getElem?_eq_getElem (show k < T.params.size by rw [HTP.out]; exact hlt)⟩
        have hd : decide (k < T.params.size) = true := decide_eq_true (by rw [HTP.out]; omega)
        have HIX := Lib.hid (index_str T.params k c hc)
        have HAV := Lib.hid (show av.getD k 0 = a by rw [List.getD_eq_getElem?_getD, ha]; rfl)
        have HPC := Lib.hid (show T.params.data.toList.getD k 0 = c by rw [List.getD_eq_getElem?_getD, hc]; rfl)
        have HCUT := Lib.hid (fun W => cut_any (c.toNat : Int) a (HAS.out a (List.mem_of_getElem? ha)) W)
        have HZ := Lib.hid (show HeldE W4 B tb W1.heap.size sb lb T.params av.length cap av n k a wr.drew from ⟨HKEEP.out.cell G0.out (by show ¬ W1.heap.size = lb; omega), HKEEP.out.cell B1.out (by show ¬ tb = lb; omega), HKEEP.out.cell (HST4.out k a ha) (by show ¬ sb = lb; omega), .inl HROW.out, HKEEP.out.trans (Keeps.of_below (Below.refl _ _).drew) (fun j hj => .inl hj)⟩)
        have hw8 : IntKind.i64.wrap (c.toNat : Int) = (c.toNat : Int) := IntWalk.i64_in _ (by have := c.toNat_lt; omega)
        have hw9 : IntKind.i64.wrap (k : Int) = (k : Int) := IntWalk.i64_in _ (by omega)
        have hw10 : IntKind.i64.wrap ((k : Int) + 1) = (k : Int) + 1 := IntWalk.i64_in _ (by omega)
        have hk0 : (0 : Int) ≤ (k : Int) := by omega
        have hk1 : (k : Int) < (av.length : Int) := by omega
        have hk2 : (k : Int) < (n : Int) := by have := HN.out; omega
        have hkn : k < n := by have := HN.out; omega
        have hk3 : (k : Int) < (T.params.size : Int) := by rw [HTP.out]; omega
        have hix := HIX.out
        clear ha hc
        go_upto_region 9 with fail
        obtain ⟨V0, hV0⟩ : ∃ V, wr.drew = V := ⟨_, rfl⟩
        have HZ := Lib.hid (show HeldE W4 B tb W1.heap.size sb lb T.params av.length cap av n k a V0 by rw [← hV0]; exact HZ.out)
        refine wp_region_held_drew (S := fun W => HeldE W4 B tb W1.heap.size sb lb T.params av.length cap av n k a W) (by kernel_rfl) (by rw [hV0]; exact HZ.out) (fun hHeld => ?_)
        rw [hV0] at hHeld ⊢
        clear hV0 HROW

        refine ty 0 (some 64) (h := ?_)
        try simp only [zpA, zpB, zpC, zpD, zpE]
        refine ty 1 (some 65) (h := ?_)
        try simp only [zpA, zpB, zpC, zpD, zpE]
        refine ty 2 (some 66) (h := ?_)
        try simp only [zpA, zpB, zpC, zpD, zpE]
        refine ty 3 (some 67) (h := ?_)
        try simp only [zpA, zpB, zpC, zpD, zpE]
        refine ty 4 (some 68) (h := ?_)
        try simp only [zpA, zpB, zpC, zpD, zpE]
        refine ty 5 (some 69) (h := ?_)
        try simp only [zpA, zpB, zpC, zpD, zpE]
        refine ty 6 (some 70) (h := ?_)
        try simp only [zpA, zpB, zpC, zpD, zpE]
        refine ty 7 (some 71) (h := ?_)
        try simp only [zpA, zpB, zpC, zpD, zpE]
        refine ty 8 (some 72) (h := ?_)
        try simp only [zpA, zpB, zpC, zpD, zpE]
        refine ty 9 (some 73) (h := ?_)
        try simp only [zpA, zpB, zpC, zpD, zpE]
        refine ty 10 (some 74) (h := ?_)
        try simp only [zpA, zpB, zpC, zpD, zpE]
        refine ty 11 (some 75) (h := ?_)
        try simp only [zpA, zpB, zpC, zpD, zpE]
        refine ty 12 (some 76) (h := ?_)
        try simp only [zpA, zpB, zpC, zpD, zpE]
        refine ty 13 (some 77) (h := ?_)
        try simp only [zpA, zpB, zpC, zpD, zpE]
        refine ty 14 (some 78) (h := ?_)
        try simp only [zpA, zpB, zpC, zpD, zpE]
        refine ty 15 (some 79) (h := ?_)
        try simp only [zpA, zpB, zpC, zpD, zpE]
        refine wpAnyH_ready (rs := [16]) (by kernel_rfl) (by simp) ?_
        refine (AllReadyH.cons (o := _) rfl (fun K hK => ?_) AllReadyH.nil)
        go_simp
        go_at_call 18
        refine (HCUT.out _).mono ?_
        rintro e V1 ⟨rfl, c1⟩
        go_wp2_with fail
        refine hK.out _ _ (heldE_later c1 hHeld) (fun hHeld => ?_)
        clear c1
        clear hK K
        try simp only [zpA, zpB, zpC, zpD, zpE]
        refine ty 17 (some 81) (h := ?_)
        try simp only [zpA, zpB, zpC, zpD, zpE]
        refine wpAnyH_ready (rs := [18]) (by kernel_rfl) (by simp) ?_
        refine (AllReadyH.cons (o := _) rfl (fun K hK => ?_) AllReadyH.nil)
        obtain ⟨⟨v9, y9⟩, z9, o9⟩ := hHeld.2.2.2.1.put hkn
        rw [HAV.out, HPC.out] at o9
        obtain ⟨V2, hV2⟩ : ∃ V, V1.setCell ⟨lb, k, none⟩ (.int .u64 (cutP (c.toNat : Int) a : Int)) = V := ⟨_, rfl⟩
        rw [hV2] at o9
        have HO9 := Lib.hid o9
        have k9 : Keeps (fun j => j = lb) V1 V2 := by rw [← hV2]; exact Keeps.setCell (F := fun j => j = lb) _ _ _ rfl
        have HK9 := Lib.hid (hHeld.2.2.2.2.trans k9 (fun j hj => .inl hj))
        have hS9 : HeldE W4 B tb W1.heap.size sb lb T.params av.length cap av n k a V2 := ⟨k9.cell hHeld.1 (by show ¬ W1.heap.size = lb; omega), k9.cell hHeld.2.1 (by show ¬ tb = lb; omega), k9.cell hHeld.2.2.1 (by show ¬ sb = lb; omega), .inr HO9.out, HK9.out⟩
        go_simp
        try rw [hV2]
        refine hK.out _ _ hS9 (fun hHeld => ?_)
        clear o9 k9 hS9 hV2 y9 z9
        clear hK K
        try simp only [zpA, zpB, zpC, zpD, zpE]
        refine wpAnyH_done (by kernel_rfl) ?_ _
        clear hHeld
        go_wp2_with fail
        go_roundw
        case rel => exact ⟨k + 1, by omega, by go_num, HO9.out, HK9.out⟩
        case measure => simp [intOf]; omega
      · obtain rfl : k = av.length := by omega
        have hd : decide (av.length < T.params.size) = false := decide_eq_false (by rw [HTP.out]; omega)
        have b1 := HKEEP.out.cell B1.out (by show ¬ tb = lb; omega)
        have htl : tb < wr.heap.size := Nat.lt_trans l3 (HROW.out.lt lb rfl).2
        have hbx : wr.heap[tb]? = some (.cells #[.pointer (some ⟨K.R, 0, none⟩), .slice (some ⟨sb, 0, none⟩) av.length cap, .slice none 0 0, .int .i64 (fuel : Int), .int .i64 0] 81 (0, 0)) := (HKEEP.out.block tb (by have := E4.out.size; omega) (by show ¬ tb = lb; omega)).trans ((E4.out.block tb htbl).trans HBOX.out)
        have fz := frozen_of_row wr tb 1 _ _ hbx
        have hcut := cut_nats (some ⟨sb, 0, none⟩) av.length cap 0 (by omega)
        have BX := Lib.hid hbx
        clear hbx
        go_upto_region 12 with fail
        obtain ⟨W6, hW6⟩ : ∃ W6, wr.setCell ⟨tb, 1, none⟩ (.slice (some ⟨sb, 0, none⟩) 0 cap) = W6 := ⟨_, rfl⟩
        have hb6 : W6.heap[tb]? = some (.cells #[.pointer (some ⟨K.R, 0, none⟩), .slice (some ⟨sb, 0, none⟩) 0 cap, .slice none 0 0, .int .i64 (fuel : Int), .int .i64 0] 81 (0, 0)) := by rw [← hW6, box_set BX.out]; rfl
        have K6 := Lib.hid (show Keeps (fun j => j = tb) wr W6 by rw [← hW6]; exact Keeps.setCell (F := fun j => j = tb) _ _ _ rfl)
        rw [hW6]
        have hs6 : ∀ j o, j < lb → j ≠ tb → W4.heap[j]? = some o → W6.heap[j]? = some o := fun j o h1 h2 h3 => (K6.out.block j (by have := (HROW.out.lt lb rfl).2; omega) h2).trans ((HKEEP.out.block j (Array.getElem?_eq_some_iff.1 h3).1 (by show ¬ j = lb; omega)).trans h3)
        have n1 : w.heap.size ≠ tb := by omega
        have n2 : W1.heap.size ≠ tb := by omega
        have b2 : W6.cell? ⟨tb, 2, none⟩ = some (.slice none 0 0) := cell_of_row _ _ _ _ _ _ hb6
        have f2 : W6.cell? ⟨w.heap.size, 2, none⟩ = some (.slice ca F.code.length cc) := cell_of_row _ _ _ _ _ _ (hs6 _ _ l1 n1 R1.out)
        have g1 : W6.cell? ⟨W1.heap.size, 1, none⟩ = some (.string T.results) := cell_of_row _ _ _ _ _ _ (hs6 _ _ l2 n2 R2.out)
        have hbl6 : tb < W6.heap.size := (Array.getElem?_eq_some_iff.1 hb6).1
        have fz6 := frozen_of_row W6 tb 2 _ _ hb6
        have hfl6 : w.heap.size < W6.heap.size := World.block_lt_of_cell? _ _ f2
        have hgl6 : W1.heap.size < W6.heap.size := World.block_lt_of_cell? _ _ g1
        obtain ⟨i0, hi, hz0, hz1, hz2⟩ := info_of info_frame
        have HC := Lib.hid (show ∀ o : Obj, (W6.alloc o).ownsRow B 123 7 (.slice none 0 0) 0 [] from fun o => World.ownsRow_nil _ _ _ _)
        obtain ⟨FC, hFC⟩ : ∃ FC : List Value, FC = [.int .i64 (f : Int), .slice ca F.code.length cc, .int .i64 0, .slice (some ⟨lb, 0, none⟩) n n, .int .i64 0, .int .i64 (T.results.size : Int), .slice none 0 0] := ⟨_, rfl⟩
        have HL := Lib.hid (show 0 + 1 ≤ maxLen by unfold maxLen; omega)
        have HY := Lib.hid (show (0 + 1) * 104 ≤ 140737488355328 by omega)
        have HZ := Lib.hid (show ∀ o : Obj, B ≤ (W6.alloc o).heap.size from fun o => by simp; omega)
        have HNW := Lib.hid (news_at W6 #[.int .i64 (f : Int), .slice ca F.code.length cc, .int .i64 0, .slice (some ⟨lb, 0, none⟩) n n, .int .i64 0, .int .i64 (T.results.size : Int), .slice none 0 0] 123 FC hFC.symm)
        have HONE := Lib.hid (show ∀ u ∈ FC, u.oneCell' = true by intro u hu; rw [hFC] at hu; simp at hu; rcases hu with rfl | rfl | rfl | rfl | rfl | rfl | rfl <;> rfl)
        have HFL := Lib.hid (show FC.length = 1 * 7 by rw [hFC]; rfl)
        have HFC := Lib.hid hFC
        clear hFC hW6 b1 BX
        go_region_law ((refine step_append_own2 _ (by rfl) _ _ _ (by rfl) B 123 i0 zeroFm 7 104 Tryz.underlying79 hi hz0 hz1 hz2 rfl (by decide) (.slice none 0 0) 0 [] (by rfl) (HC.out _) ⟨W6.heap.size, 0, none⟩ 1 1 FC (by rfl) HFL.out HNW.out HONE.out (by decide) HL.out HY.out (HZ.out _) ?_; intro g' cap' w1 hown hgrow hnb; have cz : w1.cell? ⟨tb, 2, none⟩ = some (.slice none 0 0) := hgrow.cell (a := ⟨tb, 2, none⟩) ((World.cell?_alloc_past _ _ _ hbl6).trans b2) (by simp [Value.ownBlock]); have fz1 : w1.frozen? ⟨tb, 2, none⟩ = false := (World.frozen?_of_block (a := ⟨tb, 2, none⟩) (hgrow.block tb (by simp; omega) (by simp [Value.ownBlock]))).trans ((World.frozen?_alloc_past _ _ _ hbl6).trans fz6)))
        all_goals
          have HOW := Lib.hid hown
          have HGR := Lib.hid (drew_alloc hgrow)
          have HNB := Lib.hid (newBlock_mono hnb (show W6.heap.size ≤ (W6.alloc _).heap.size by simp))
          have hb1 : w1.heap[tb]? = some (.cells #[.pointer (some ⟨K.R, 0, none⟩), .slice (some ⟨sb, 0, none⟩) 0 cap, .slice none 0 0, .int .i64 (fuel : Int), .int .i64 0] 81 (0, 0)) := (HGR.out.block tb hbl6 (by simp [Value.ownBlock])).trans hb6
          have HB1 := Lib.hid hb1
          have HB6 := Lib.hid hb6
          clear hown hgrow hnb hb1 hb6 b2 f2 g1
          go_wp2_with fail
          go_end0
          obtain ⟨z1, z2⟩ := enter_done (f := f) (ca := ca) (cn := F.code.length) (cc := cc) (rz := T.results.size) HM.out HBOX.out HST.out E4.out HROW.out (locF_len _ _ _ _) HKEEP.out K6.out HGR.out HOW.out HFC.out HNB.out HB1.out htb htbl (by omega) l4
          rw [HN.out]
          exact ⟨rfl, _, _, z1, rfl, rfl, HCODE.out, z2⟩
end Go.Proofs.YtmbgemcddjailaaGreatDoor.Run

/- RunH: What Call does. No condition beyond what each theorem names. -/
namespace Go.Proofs.YtmbgemcddjailaaGreatDoor.Run
open Go.RowKit Go.Maps Go.Proofs.YtmbgemcddjailaaGreatDoor.Op Go.Proofs.YtmbgemcddjailaaGreatDoor.Mod
set_option linter.unusedVariables false
/-- the results, or none -/
def resV (er : Int) (sv : Value) : Value := if er = 0 then sv else .slice none 0 0
theorem resV_ok (sv : Value) : resV 0 sv = sv := rfl
theorem resV_no {er : Int} (h : er ≠ 0) (sv : Value) : resV er sv = .slice none 0 0 := if_neg h
set_option maxRecDepth 100000 in
set_option maxHeartbeats 8000000 in
theorem call_any (w : World) (K : Mk) (gs : List Nat) (hM : MAt w w.heap.size K gs) (f : Nat) (F : FuncP) (hF : K.m.funcs[f]? = some F) (i : Nat) (hi : F.ty = (i : Int)) (T : FT) (hT : K.m.types[i]? = some T) (av : List Nat) (hP : T.params.size = av.length) (h0 : 0 < av.length) (hsm : av.length ≤ 1000) (has : ∀ a ∈ av, a < 18446744073709551616) (fuel : Nat) (hfu : fuel ≤ 1000000000)
    (hL : F.locals.size ≤ 10000) (hR : T.results.size ≤ 10) (hm1 : K.m.funcs.length ≤ 100000) (hm2 : K.m.types.length ≤ 100000) (ab ao ac : Nat) (harg : ∀ j (a : Nat), av[j]? = some a → w.cell? ⟨ab, ao + j, none⟩ = some (.int .u64 (a : Int)))
    (N : Nat) (er left : Int) (Z : World → Value → Prop) (hZ : ∀ W W' sv, Z W sv → Below W.heap.size W W' → Z W' sv)
    (hI : ∀ tb w3 E x, SAt w3 w.heap.size tb K gs E x ⟨[], 0, locF T.params.data.toList av (av.length + F.locals.size) av.length, [], fuel, 0⟩ → E.height = 0 → E.many = T.results.size → CodeAt K.w0 E.cv F.code → Below w.heap.size w w3 →
      ∃ I : Nat → World → Prop, I 0 w3 ∧ (∀ k, k < N → ∀ W, I k W → (W.cell? ⟨tb, 4, none⟩ = some (.int .i64 0) ∧ ∃ ca cc, W.cell? ⟨tb, 2, none⟩ = some (.slice ca 1 cc)) ∧ Calls Tryz.prog 21 #[.pointer (some ⟨tb, 0, none⟩)] W fun e W' => e = .returned (.tuple #[]) ∧ I (k + 1) W') ∧
        ∀ W, I N W → W.cell? ⟨tb, 4, none⟩ = some (.int .i64 er) ∧ W.cell? ⟨tb, 3, none⟩ = some (.int .i64 left) ∧ (∃ sv, W.cell? ⟨tb, 1, none⟩ = some sv ∧ Z W sv) ∧ (er = 0 → ∃ ca cc, W.cell? ⟨tb, 2, none⟩ = some (.slice ca 0 cc))) :
    Calls Tryz.prog 7 #[.pointer (some ⟨K.R, 0, none⟩), .int .i64 (f : Int), .slice (some ⟨ab, ao, none⟩) av.length ac, .int .i64 (fuel : Int)] w fun e w' => ∃ sv, e = .returned (.tuple #[resV er sv, .int .i64 left, .int .i64 er]) ∧ Z w' sv := by
  obtain ⟨fa, fc, hfv, _, hfat⟩ := hM.mod.funcs.form
  obtain ⟨ta, tc, htv, _, htat⟩ := hM.mod.types.form
  obtain ⟨rf, ⟨cv, hrf, _⟩, _, fb, fo, hfa, hfb, hfc⟩ := hfat f F hF
  obtain ⟨rt, ⟨hrt, _⟩, _, tyb, tyo, hta, htyb, htc⟩ := htat i T hT
  subst hfa hta
  rw [hrf] at hfc
  rw [hrt] at htc
  have hfl := (List.getElem?_eq_some_iff.1 hF).1
  have htl := (List.getElem?_eq_some_iff.1 hT).1
  have k0 : w.cell? ⟨fb, fo + f * 3, none⟩ = some (.int .i64 (i : Int)) := by rw [← hi]; exact cell_later hM.old (hfc 0 _ rfl)
  have p0 : w.cell? ⟨tyb, tyo + i * 2, none⟩ = some (.string T.params) := cell_later hM.old (htc 0 _ rfl)
  obtain ⟨m0, m1, _⟩ := hM.cells
  rw [htv] at m0
  rw [hfv] at m1
  have hi0 : (0 : Int) ≤ (f : Int) := by omega
  have hi1 : (f : Int) < (K.m.funcs.length : Int) := by omega
  have hj0 : (0 : Int) ≤ (i : Int) := by omega
  have hj1 : (i : Int) < (K.m.types.length : Int) := by omega
  have d1 : decide ((f : Int) < 0) = false := decide_eq_false (by omega)
  have d2 : decide (K.m.funcs.length ≤ f) = false := decide_eq_false (by omega)
  have d3 : decide ((fuel : Int) < 0) = false := decide_eq_false (by omega)
  have d4 : ((av.length : Int) != (T.params.size : Int)) = false := by rw [hP]; simp
  have HM := Lib.hid hM
  have HEN := Lib.hid (fun (W : World) (hb : Below w.heap.size w W) tb sb cap => enter_new W w.heap.size tb K gs (hM.later hb) sb cap fuel av h0 hsm has hfu)
  have HF := Lib.hid hF
  have HI1 := Lib.hid hi
  have HT := Lib.hid hT
  have HP := Lib.hid hP
  have HARG := Lib.hid harg
  have HII := Lib.hid hI
  have HZZ := Lib.hid hZ
  obtain ⟨i0, hi9, hz0, hz1, hz2⟩ := info_of info_u64
  have HL4 := Lib.hid (show 0 + av.length ≤ maxLen by unfold maxLen; omega)
  have HL5 := Lib.hid (show (0 + av.length) * 8 ≤ 140737488355328 by omega)
  have HNEWS := Lib.hid (show ∀ (W : World), W.heap = w.heap → ∀ j u, (natsV av)[j]? = some u → W.cell? ((⟨ab, ao, none⟩ : Addr).add j) = some u from fun W hW j u hu => by
    rw [cell_heap hW, show (⟨ab, ao, none⟩ : Addr).add j = ⟨ab, ao + j, none⟩ by rw [Addr.add_lit]]
    simp only [natsV, List.getElem?_map, Option.map_eq_some_iff] at hu
    obtain ⟨a, ha, rfl⟩ := hu
    exact harg j a ha)
  have HNL := Lib.hid (show (natsV av).length = av.length * 1 by simp [natsV])
  clear hM hfat htat hfc htc hF hT hrf hrt hfv htv hi has harg hI hZ hP
  go_enter Tryz.func7, Tryz.ntmps7
  go_wp2_with fail
  go_quiet (fail)
  obtain ⟨W1, hW1⟩ : ∃ W1, w.drewN nq = W1 := ⟨_, rfl⟩
  have hheap : W1.heap = w.heap := by rw [← hW1]; rfl
  have e1 : Below w.heap.size w W1 := by rw [← hW1]; exact ⟨rfl, rfl, rfl, Nat.le_refl _, fun _ _ => rfl⟩
  rw [hW1]
  have E1 := Lib.hid e1
  have HHP := Lib.hid hheap
  clear hW1 m0 m1 k0 p0 e1 hheap
  go_wp2_with (at_builtin; refine wpList_append_own2 _ rfl _ _ 46 rfl w.heap.size 22 i0 (.int .u64 0) 1 8 Tryz.underlying46 hi9 hz0 hz1 hz2 rfl (by decide) (.slice none 0 0) 0 [] rfl (World.ownsRow_nil _ _ _ _) ⟨ab, ao, none⟩ av.length ac (natsV av) rfl HNL.out (HNEWS.out _ HHP.out) (nats_one av) h0 HL4.out HL5.out E1.out.size ?_)
  intro v' w1 hown hgrow hnb
  obtain ⟨sb, scap, rfl⟩ := Go.Joins.ownsRow_form hown h0
  have e2 : Below W1.heap.size W1 w1 := ⟨hgrow.os, hgrow.tape, hgrow.output, hgrow.size, fun k hk => hgrow.block k hk (by simp [Value.ownBlock])⟩
  have E2 := Lib.hid (E1.out.trans (e2.mono E1.out.size))
  have HOWN := Lib.hid hown
  clear hown hgrow hnb e2
  go_upto_region 4 with fail
  obtain ⟨W2, hW2⟩ : ∃ W2, w1.alloc (.cells #[.pointer (some ⟨K.R, 0, none⟩), .slice (some ⟨sb, 0, none⟩) av.length scap, .slice none 0 0, .int .i64 (fuel : Int), .int .i64 0] 81) = W2 := ⟨_, rfl⟩
  have e3 : Below w1.heap.size w1 W2 := by rw [← hW2]; exact (Below.refl _ _).alloc (Nat.le_refl _) _
  have hbx : W2.heap[w1.heap.size]? = some (.cells #[.pointer (some ⟨K.R, 0, none⟩), .slice (some ⟨sb, 0, none⟩) av.length scap, .slice none 0 0, .int .i64 (fuel : Int), .int .i64 0] 81 (0, 0)) := by rw [← hW2]; exact heap_alloc_new _ _
  rw [hW2]
  have E3 := Lib.hid (E2.out.trans (e3.mono E2.out.size))
  have HC := Lib.hid (HEN.out W2 E3.out w1.heap.size sb scap hbx E2.out.size (ownsRow_of HOWN.out (fun j hj => e3.block j (HOWN.out.lt j hj).2)) f F HF.out i HI1.out T HT.out HP.out hL hR hm1 hm2)
  have HSB := Lib.hid (HOWN.out.lt sb rfl)
  have HTB := Lib.hid (show w.heap.size ≤ w1.heap.size from E2.out.size)
  obtain ⟨tb, htb⟩ : ∃ tb, w1.heap.size = tb := ⟨_, rfl⟩
  rw [htb] at HC HTB ⊢
  clear hW2 e3 hbx HEN htb
  go_wp2_with fail
  refine HC.out.mono ?_
  rintro e w3 ⟨rfl, E, x, hS, hE1, hE2, hE3, hK⟩
  obtain ⟨I, I0, IS, IN⟩ := HII.out tb w3 E x hS hE1 hE2 hE3 (E3.out.trans (hK.below (fun j hj => hj.elim (fun e => e ▸ HTB.out) (fun e => e ▸ HSB.out.1)) E3.out.size))
  have I0 := Lib.hid I0
  have IS := Lib.hid IS
  have IN := Lib.hid IN
  clear hS hE1 hE2 hE3 hK HC HII
  go_wp2_with fail
  go_loopg [61] N (fun gk p wr => ∃ k, k + gk = N ∧ I k wr)
  case atStart => exact ⟨0, by omega, I0.out⟩
  case round =>
    obtain ⟨k, hk, hIk⟩ := hrel
    rcases Nat.eq_zero_or_pos gk with h9 | h9
    · subst h9
      obtain rfl : k = N := by omega
      obtain ⟨c4, c3, ⟨sv, c1, hz⟩, hc⟩ := IN.out wr hIk
      have HZV := Lib.hid hz
      clear hz hIk hk
      by_cases her : er = 0
      · subst her
        obtain ⟨ca, cc, c2⟩ := hc rfl
        clear hc
        go_wp2_with fail
        go_quiet (fail)
        go_wp2_with fail
        go_ret3
        exact ⟨sv, by rw [resV_ok]; rfl, HZZ.out _ _ _ HZV.out ⟨rfl, rfl, rfl, Nat.le_refl _, fun _ _ => rfl⟩⟩
      · have d5 : (er == 0) = false := beq_eq_false_iff_ne.2 her
        have HER := Lib.hid her
        clear hc her
        go_wp2_with fail
        go_quiet (fail)
        go_wp2_with fail
        go_ret3
        exact ⟨sv, by rw [resV_no HER.out]; rfl, HZZ.out _ _ _ HZV.out ⟨rfl, rfl, rfl, Nat.le_refl _, fun _ _ => rfl⟩⟩
    · obtain ⟨gp, rfl⟩ : ∃ gp, gk = gp + 1 := ⟨gk - 1, by omega⟩
      obtain ⟨⟨c4, ca, cc, c2⟩, hstep⟩ := IS.out k (by omega) wr hIk
      have HSTEP := Lib.hid hstep
      clear hstep hIk
      go_wp2_with fail
      refine HSTEP.out.mono ?_
      rintro e w4 ⟨rfl, h4⟩
      have H4 := Lib.hid h4
      clear h4 c4 c2
      go_wp2_with fail
      go_roundg gp
      case measure => omega
      case rel => exact ⟨k + 1, by omega, H4.out⟩
end Go.Proofs.YtmbgemcddjailaaGreatDoor.Run
