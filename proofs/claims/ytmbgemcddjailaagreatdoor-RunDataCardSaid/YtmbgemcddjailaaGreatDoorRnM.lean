/-
  RunM, RunN, RunP, RunQ, RunR in one.
-/
import Derived.Test.YtmbgemcddjailaaGreatDoorRnB
import Derived.Laws.CopyOwn
import Derived.StillTailTactics
import Derived.Test.YtmbgemcddjailaaGreatDoorRnD
import Derived.Laws.IdiomStrings
/- RunM: A memory of one page: how it lies; has, page. No condition beyond what each theorem names. -/
namespace Go.Proofs.YtmbgemcddjailaaGreatDoor.Run
open Go.RowKit Go.Maps Go.Proofs.YtmbgemcddjailaaGreatDoor.Op Go.Proofs.YtmbgemcddjailaaGreatDoor.Mod
set_option linter.unusedVariables false
def bytesV (l : List UInt8) : List Value := l.map fun (c : UInt8) => .int .u8 (c.toNat : Int)
/-- a page of zeros -/
def zeroL : List UInt8 := List.replicate 65536 0
def zeroC : Array Value := madeCells #[.int .u8 0] 65536
theorem zeroL_len : zeroL.length = 65536 := by unfold zeroL; exact List.length_replicate
theorem zeroC_size : zeroC.size = 65536 := by unfold zeroC; exact size_madeCells _ _
theorem zeroC_list : zeroC.toList = bytesV zeroL := by
  unfold zeroC zeroL bytesV
  rw [toList_madeCells_one, List.map_replicate]
  rfl
attribute [irreducible] zeroL zeroC
/-- the page's slice, what lies there -/
def PgAt (w : World) (lo : Nat) (pv : Value) (l : List UInt8) : Prop := (pv = .slice none 0 0 ∧ l = zeroL) ∨ ∃ p, pv = .slice (some ⟨p, 0, none⟩) 65536 65536 ∧ w.ownsRow lo 5 1 pv 65536 (bytesV l)
/-- the memory's box, its row of one page -/
structure PmAt (w : World) (lo mb pb pc : Nat) (pv : Value) (most : Int) (l : List UInt8) : Prop where
  box : w.heap[mb]? = some (.cells #[.slice (some ⟨pb, 0, none⟩) 1 pc, .int .i64 most] 115 (0, 0))
  low : lo ≤ mb
  row : w.ownsRow lo 83 1 (.slice (some ⟨pb, 0, none⟩) 1 pc) 1 [pv]
  page : PgAt w lo pv l
  len : l.length = 65536
def pmFoot (mb pb : Nat) (pv : Value) (k : Nat) : Prop := k = mb ∨ k = pb ∨ pv.ownBlock = some k
section
variable {w w' : World} {lo mb pb pc : Nat} {pv : Value} {most : Int} {l : List UInt8}
theorem PgAt.of (h : PgAt w lo pv l) (he : ∀ k, pv.ownBlock = some k → w'.heap[k]? = w.heap[k]?) : PgAt w' lo pv l := by
  rcases h with h | ⟨p, h1, h2⟩
  · exact .inl h
  · exact .inr ⟨p, h1, ownsRow_of h2 he⟩
theorem PgAt.lt (h : PgAt w lo pv l) : ∀ k, pv.ownBlock = some k → lo ≤ k ∧ k < w.heap.size := by
  intro k hk
  rcases h with ⟨h, _⟩ | ⟨p, h1, h2⟩
  · rw [h] at hk; cases hk
  · exact h2.lt k hk
theorem PmAt.lt (h : PmAt w lo mb pb pc pv most l) : mb < w.heap.size := (Array.getElem?_eq_some_iff.1 h.box).1
theorem PmAt.foot_lt (h : PmAt w lo mb pb pc pv most l) : ∀ k, pmFoot mb pb pv k → lo ≤ k ∧ k < w.heap.size := by
  rintro k (rfl | rfl | hk)
  · exact ⟨h.low, h.lt⟩
  · exact h.row.lt k rfl
  · exact h.page.lt k hk
theorem PmAt.kept (h : PmAt w lo mb pb pc pv most l) (he : ∀ k, pmFoot mb pb pv k → w'.heap[k]? = w.heap[k]?) : PmAt w' lo mb pb pc pv most l :=
  ⟨(he mb (.inl rfl)).trans h.box, h.low, ownsRow_of h.row (fun k hk => he k (.inr (.inl (by simpa [Value.ownBlock] using hk.symm)))), h.page.of (fun k hk => he k (.inr (.inr hk))), h.len⟩
theorem PmAt.later (h : PmAt w lo mb pb pc pv most l) (hb : Below w.heap.size w w') : PmAt w' lo mb pb pc pv most l := h.kept fun k hk => hb.block k (h.foot_lt k hk).2
theorem PmAt.cells (h : PmAt w lo mb pb pc pv most l) : w.cell? ⟨mb, 0, none⟩ = some (.slice (some ⟨pb, 0, none⟩) 1 pc) ∧ w.cell? ⟨mb, 1, none⟩ = some (.int .i64 most) ∧ w.cell? ⟨pb, 0, none⟩ = some pv ∧ w.frozen? ⟨pb, 0, none⟩ = false := by
  have hb := h.box
  refine ⟨?_, ?_, ?_, h.row.frozenAt 0⟩
  · rw [cell_of_row w mb _ _ _ _ hb]; rfl
  · rw [cell_of_row w mb _ _ _ _ hb]; rfl
  · rw [h.row.cellAt 0 (by decide)]; rfl
theorem PmAt.rest (h : PmAt w lo mb pb pc pv most l) : pb ≠ mb ∧ (∀ k, pv.ownBlock = some k → k ≠ mb ∧ k ≠ pb) := by
  refine ⟨fun e => kind_ne h.row h.box (by decide) (by rw [← e]; rfl), fun k hk => ?_⟩
  rcases h.page with ⟨h1, _⟩ | ⟨p, h1, h2⟩
  · rw [h1] at hk; cases hk
  · refine ⟨?_, fun e => kinds_ne h2 h.row (by decide) k hk (by rw [e]; rfl)⟩
    rintro rfl; exact kind_ne h2 h.box (by decide) hk
/-- what writing leaves: a page that was not there may be now -/
def PmUpd (w : World) (lo mb pb pc : Nat) (pv : Value) (most : Int) (l : List UInt8) (w' : World) : Prop := ∃ pv', PmAt w' lo mb pb pc pv' most l ∧ (∀ k, pv'.ownBlock = some k → pv.ownBlock = some k ∨ w.heap.size ≤ k) ∧ Keeps (pmFoot mb pb pv) w w'
end
set_option maxRecDepth 100000 in
set_option maxHeartbeats 1000000 in
theorem has_any (w : World) (lo mb pb pc : Nat) (pv : Value) (most : Int) (l : List UInt8) (h : PmAt w lo mb pb pc pv most l) (at_ n : Nat) (ha : at_ < 18446744073709551616) (hn : n ≤ 1000000000000) :
    Calls Tryz.prog 22 #[.pointer (some ⟨mb, 0, none⟩), .int .u64 (at_ : Int), .int .i64 (n : Int)] w fun e w' => e = .returned (.bool (decide (at_ + n ≤ 65536))) ∧ Below w.heap.size w w' := by
  obtain ⟨c0, _, _, _⟩ := h.cells
  have hn0 : decide ((n : Int) ≥ 0) = true := decide_eq_true (by omega)
  have hwn : IntKind.u64.wrap (n : Int) = (n : Int) := IntWalk.u64_in _ (by omega)
  clear h
  by_cases h1 : at_ ≤ 65536
  · have d1 : decide ((at_ : Int) ≤ 65536) = true := decide_eq_true (by omega)
    have hws : IntKind.u64.wrap (65536 - (at_ : Int)) = 65536 - (at_ : Int) := IntWalk.u64_in _ (by omega)
    have hres : decide ((n : Int) ≤ 65536 - (at_ : Int)) = decide (at_ + n ≤ 65536) := by rw [decide_eq_decide]; omega
    go_enter Tryz.func22, Tryz.ntmps22
    go_wp2_with fail
    go_ret
    exact ⟨by simp, Below.refl _ _⟩
  · have d1 : decide ((at_ : Int) ≤ 65536) = false := decide_eq_false (by omega)
    have hres : decide (at_ + n ≤ 65536) = false := decide_eq_false (by omega)
    rw [hres]
    go_enter Tryz.func22, Tryz.ntmps22
    go_wp2_with fail
    go_ret
    exact ⟨rfl, Below.refl _ _⟩
end Go.Proofs.YtmbgemcddjailaaGreatDoor.Run

/- RunN: A memory of one page: page, put, Write. No condition beyond what each theorem names. -/
namespace Go.Proofs.YtmbgemcddjailaaGreatDoor.Run
open Go.RowKit Go.Maps Go.Proofs.YtmbgemcddjailaaGreatDoor.Op Go.Proofs.YtmbgemcddjailaaGreatDoor.Mod
set_option linter.unusedVariables false
set_option linter.unusedSimpArgs false
theorem info_byte : (Tryz.prog.info? 5).map (fun i => (i.zero, i.size, i.bytes)) = some (some (.int .u8 0), 1, 1) := by kernel_rfl
set_option maxRecDepth 100000 in
theorem make_page (W : World) : (Instr.makeSlice 83 (.int .i64 65536) (.int .i64 65536)).run Tryz.prog W = .ok (.slice (some ⟨W.heap.size, 0, none⟩) 65536 65536) (W.alloc (.cells zeroC 5)) := by
  obtain ⟨i0, hi, hz0, hz1, hz2⟩ := info_of info_byte
  have h := run_make (P := Tryz.prog) W 83 5 i0 (.int .u8 0) Tryz.underlying83 hi hz0 .i64 .i64 65536 65536 (by omega) (by omega) (by rw [hz2]; omega) (by omega)
  rw [h, hz1]
  have e : madeCells (Value.int .u8 0).cells ((65536 : Int).toNat * 1) = zeroC := by unfold zeroC; rfl
  rw [e]
  rfl
theorem zero_own {w : World} {B p : Nat} (h : w.heap[p]? = some (.cells zeroC 5 (0, 0))) (hB : B ≤ p) : w.ownsRow B 5 1 (.slice (some ⟨p, 0, none⟩) 65536 65536) 65536 (bytesV zeroL) := by
  have hl : (bytesV zeroL).length = 65536 := by unfold bytesV; rw [List.length_map, zeroL_len]
  refine ⟨by rw [hl], .inr ⟨p, 65536, zeroC, rfl, hB, h, Nat.le_refl _, by unfold maxLen; omega, by rw [zeroC_size], ?_⟩⟩
  rw [zeroC_list, List.take_of_length_le (by rw [hl]; exact Nat.le_refl _)]
theorem eql_nil (w : World) (a : Option Addr) (n c : Nat) : (binOp .eql 83 (.slice a n c) (.slice none 0 0)).run Tryz.prog w = .ok (.bool a.isNone) w := Lib.run_eql_slice_nil w _ _ a n c 0 0 Tryz.underlying83
section
variable {w w' w1 : World} {lo mb pb pc : Nat} {pv : Value} {most : Int} {l : List UInt8}
/-- the page that is made -/
theorem PmAt.made (h : PmAt w lo mb pb pc (.slice none 0 0) most l) (hlo : lo ≤ w.heap.size) (WF : World) (hWF : ((w.setCell ⟨pb, 0, none⟩ (.slice (some ⟨w.heap.size, 0, none⟩) 65536 65536)).alloc (.cells zeroC 5)).drew = WF) : PmAt WF lo mb pb pc (.slice (some ⟨w.heap.size, 0, none⟩) 65536 65536) most l ∧ Keeps (pmFoot mb pb (.slice none 0 0)) w WF := by
  have hpb := (h.foot_lt pb (.inr (.inl rfl))).2
  have hmb := h.lt
  have hne : pb ≠ mb := h.rest.1
  have hl : l = zeroL := by
    rcases h.page with ⟨_, h2⟩ | ⟨q, h2, _⟩
    · exact h2
    · simp at h2
  obtain ⟨W, hW⟩ : ∃ W, w.setCell ⟨pb, 0, none⟩ (.slice (some ⟨w.heap.size, 0, none⟩) 65536 65536) = W := ⟨_, rfl⟩
  have hz : W.heap.size = w.heap.size := by rw [← hW]; simp [World.setCell]
  have ks : Keeps (pmFoot mb pb (.slice none 0 0)) w W := by rw [← hW]; exact Keeps.setCell (F := pmFoot mb pb (.slice none 0 0)) _ _ _ (.inr (.inl rfl))
  have hrow : W.ownsRow lo 83 1 (.slice (some ⟨pb, 0, none⟩) 1 pc) 1 [.slice (some ⟨w.heap.size, 0, none⟩) 65536 65536] := by rw [← hW]; exact (h.row.stored 0 (.slice (some ⟨w.heap.size, 0, none⟩) 65536 65536)).1
  have hbx : W.heap[mb]? = w.heap[mb]? := by rw [← hW]; exact Below.heap_setCell _ _ _ _ hne.symm
  rw [hW] at hWF
  have e : Below W.heap.size W WF := by rw [← hWF]; exact ((Below.refl _ _).alloc (Nat.le_refl _) _).drew
  have hc : WF.heap[w.heap.size]? = some (.cells zeroC 5 (0, 0)) := by rw [← hWF, ← hz]; exact heap_alloc_new W _
  refine ⟨⟨(e.block mb (by omega)).trans (hbx.trans h.box), h.low, ownsRow_of hrow (fun k hk => e.block k (hrow.lt k hk).2), .inr ⟨_, rfl, ?_⟩, h.len⟩, ks.trans (Keeps.of_below e) (fun j hj => .inl hj)⟩
  rw [hl]
  exact zero_own hc hlo
end
set_option maxRecDepth 100000 in
set_option maxHeartbeats 2000000 in
theorem page_r (w : World) (lo mb pb pc : Nat) (pv : Value) (most : Int) (l : List UInt8) (h : PmAt w lo mb pb pc pv most l) (at_ : Nat) (ha : at_ < 65536) :
    Calls Tryz.prog 48 #[.pointer (some ⟨mb, 0, none⟩), .int .u64 (at_ : Int), .bool false] w fun e w' => e = .returned pv ∧ Below w.heap.size w w' := by
  obtain ⟨c0, _, c2, _⟩ := h.cells
  have hdiv : (at_ : Int).tdiv 65536 = 0 := by rw [Int.tdiv_eq_ediv_of_nonneg (by omega)]; omega
  have hform : pv = .slice none 0 0 ∨ ∃ p, pv = .slice (some ⟨p, 0, none⟩) 65536 65536 := h.page.imp (·.1) (fun ⟨p, h1, _⟩ => ⟨p, h1⟩)
  have qN := eql_nil
  clear h
  rcases hform with rfl | ⟨p, rfl⟩
  · go_enter Tryz.func48, Tryz.ntmps48
    go_wp2_with fail
    go_ret
    exact ⟨rfl, Below.refl _ _⟩
  · go_enter Tryz.func48, Tryz.ntmps48
    go_wp2_with fail
    go_ret
    exact ⟨rfl, Below.refl _ _⟩
set_option maxRecDepth 100000 in
set_option maxHeartbeats 2000000 in
theorem page_w (w : World) (lo mb pb pc : Nat) (pv : Value) (most : Int) (l : List UInt8) (h : PmAt w lo mb pb pc pv most l) (hlo : lo ≤ w.heap.size) (at_ : Nat) (ha : at_ < 65536) :
    Calls Tryz.prog 48 #[.pointer (some ⟨mb, 0, none⟩), .int .u64 (at_ : Int), .bool true] w fun e w' => ∃ p, e = .returned (.slice (some ⟨p, 0, none⟩) 65536 65536) ∧ PmAt w' lo mb pb pc (.slice (some ⟨p, 0, none⟩) 65536 65536) most l ∧ (pv.ownBlock = some p ∨ w.heap.size ≤ p) ∧ Keeps (pmFoot mb pb pv) w w' := by
  obtain ⟨c0, _, c2, fz⟩ := h.cells
  have hdiv : (at_ : Int).tdiv 65536 = 0 := by rw [Int.tdiv_eq_ediv_of_nonneg (by omega)]; omega
  have hform : pv = .slice none 0 0 ∨ ∃ p, pv = .slice (some ⟨p, 0, none⟩) 65536 65536 := h.page.imp (·.1) (fun ⟨p, h1, _⟩ => ⟨p, h1⟩)
  have qN := eql_nil
  rcases hform with rfl | ⟨p, rfl⟩
  · have HH := Lib.hid h
    have hmk := make_page
    have hmb := h.lt
    have hpb := (h.foot_lt pb (.inr (.inl rfl))).2
    have hne := h.rest.1
    clear h
    go_enter Tryz.func48, Tryz.ntmps48
    go_wp2_with fail
    go_region
    all_goals
      obtain ⟨WF, hWF⟩ : ∃ WF, ((w.setCell ⟨pb, 0, none⟩ (.slice (some ⟨w.heap.size, 0, none⟩) 65536 65536)).alloc (.cells zeroC 5)).drew = WF := ⟨_, rfl⟩
      rw [hWF]
      obtain ⟨hP, hK⟩ := HH.out.made hlo WF hWF
      obtain ⟨c0, _, c2, _⟩ := hP.cells
      have HP := Lib.hid hP
      clear hP hWF hmk
      go_wp2_with fail
      go_ret
      exact ⟨_, rfl, HP.out, .inr (Nat.le_refl _), hK⟩
  · have HH := Lib.hid h
    clear h
    go_enter Tryz.func48, Tryz.ntmps48
    go_wp2_with fail
    go_ret
    exact ⟨p, rfl, HH.out, .inl rfl, .refl _ _⟩
end Go.Proofs.YtmbgemcddjailaaGreatDoor.Run

/- RunP: A memory of one page: put, Write. No condition beyond what each theorem names. -/
namespace Go.Proofs.YtmbgemcddjailaaGreatDoor.Run
open Go.RowKit Go.Maps Go.Proofs.YtmbgemcddjailaaGreatDoor.Op Go.Proofs.YtmbgemcddjailaaGreatDoor.Mod
set_option linter.unusedVariables false
set_option linter.unusedSimpArgs false
theorem bytesV_len (l : List UInt8) : (bytesV l).length = l.length := by simp [bytesV]
theorem bytes_one (l : List UInt8) : ∀ u ∈ bytesV l, u.oneCell' = true := by
  intro u hu
  obtain ⟨x, _, rfl⟩ := List.mem_map.1 hu
  rfl
def putL (l : List UInt8) (k : Nat) (bs : List UInt8) : List UInt8 := l.take k ++ (bs ++ l.drop (k + bs.length))
theorem putL_len {l : List UInt8} {k : Nat} {bs : List UInt8} (h : k + bs.length ≤ l.length) : (putL l k bs).length = l.length := by simp [putL]; omega
theorem putL_nil (l : List UInt8) (k : Nat) : putL l k [] = l := by simp [putL]
theorem bytesV_put (l : List UInt8) (k : Nat) (bs : List UInt8) : bytesV (putL l k bs) = (bytesV l).take k ++ (bytesV bs ++ (bytesV l).drop (k + bs.length)) := by simp [bytesV, putL]
section
variable {w w' w1 w2 : World} {lo mb pb pc p : Nat} {pv : Value} {most : Int} {l l' : List UInt8}
theorem PmAt.rowOf (h : PmAt w lo mb pb pc (.slice (some ⟨p, 0, none⟩) 65536 65536) most l) : ∃ cur : Array Value, w.heap[p]? = some (.cells cur 5 (0, 0)) ∧ cur.size = 65536 ∧ cur.toList = bytesV l := by
  rcases h.page with ⟨h1, _⟩ | ⟨q, h1, h2⟩
  · simp at h1
  · rcases h2.2 with ⟨h3, _⟩ | ⟨g', cap', cur, h3, hb, hg, hn, hm, hs, ht⟩
    · rw [h1] at h3; simp at h3
    · simp only [Value.slice.injEq, Option.some.injEq, Addr.mk.injEq] at h3
      obtain ⟨⟨rfl, _⟩, _, rfl⟩ := h3
      refine ⟨cur, hg, by omega, ?_⟩
      rw [← ht, List.take_of_length_le]
      rw [Array.length_toList]
      omega
theorem PmAt.turn (h : PmAt w lo mb pb pc (.slice (some ⟨p, 0, none⟩) 65536 65536) most l) {cur cur' : Array Value} (hg : w.heap[p]? = some (.cells cur 5 (0, 0))) (hz : cur'.size = 65536) (hl : cur'.toList = bytesV l') (hl' : l'.length = 65536) : PmAt (w.setRow p cur') lo mb pb pc (.slice (some ⟨p, 0, none⟩) 65536 65536) most l' ∧ Keeps (pmFoot mb pb (.slice (some ⟨p, 0, none⟩) 65536 65536)) w (w.setRow p cur') := by
  obtain ⟨r0, r1⟩ := h.rest
  obtain ⟨n1, n2⟩ := r1 p rfl
  have hold : ∀ q, q ≠ p → (w.setRow p cur').heap[q]? = w.heap[q]? := fun q hq => setRow_other w p q cur' hq
  refine ⟨⟨(hold mb n1.symm).trans h.box, h.low, ownsRow_of h.row (fun k hk => hold k (by
    have e : pb = k := by simpa [Value.ownBlock] using hk
    rw [← e]; exact n2.symm)), .inr ⟨p, rfl, ?_⟩, hl'⟩, ⟨rfl, rfl, rfl, by simp, fun q hq hf => hold q (fun e => hf (.inr (.inr (by rw [e]; rfl))))⟩⟩
  refine ⟨by rw [bytesV_len]; omega, .inr ⟨p, 65536, cur', rfl, (h.page.lt p rfl).1, setRow_heap w p _ _ _ _ hg, Nat.le_refl _, by unfold maxLen; omega, by omega, ?_⟩⟩
  rw [hl, List.take_of_length_le (by rw [bytesV_len]; omega)]
theorem PmUpd.same (h : PmAt w lo mb pb pc pv most l) : PmUpd w lo mb pb pc pv most l w := ⟨pv, h, fun k hk => .inl hk, .refl _ _⟩
theorem PmUpd.then_ (u : PmUpd w lo mb pb pc pv most l w1) (hb : Below w1.heap.size w1 w2) : PmUpd w lo mb pb pc pv most l w2 := by
  obtain ⟨pv', h1, h2, h3⟩ := u
  exact ⟨pv', h1.later hb, h2, h3.trans (Keeps.of_below hb) (fun j hj => .inl hj)⟩
theorem PmUpd.after (hb : Below w.heap.size w w1) (u : PmUpd w1 lo mb pb pc pv most l w2) : PmUpd w lo mb pb pc pv most l w2 := by
  obtain ⟨pv', h1, h2, h3⟩ := u
  exact ⟨pv', h1, fun k hk => (h2 k hk).imp id (fun h => Nat.le_trans hb.size h), (Keeps.of_below hb).trans h3 (fun j hj => .inl hj)⟩
end
set_option maxRecDepth 100000 in
theorem from_bytes (g off n cap l : Nat) (h : l ≤ n) (w : World) : (Instr.slice 83 (.slice (some ⟨g, off, none⟩) n cap) (some (.int .i64 l)) none none).run Tryz.prog w = .ok (.slice (some ⟨g, if cap = l then off else off + l, none⟩) (n - l) (cap - l)) w := by
  rw [run_slice_l w 83 (some ⟨g, off, none⟩) n cap Tryz.underlying83 .i64 (l : Int) (by omega) (by omega)]
  have hs : (sizeOf (Tryz.prog.elem 83)).run Tryz.prog w = .ok 1 w := by kernel_rfl
  rw [hs]
  by_cases hc : cap = l
  · simp [Result.andThen, sliced, hc]
  · by_cases h0 : l = 0
    · subst h0; simp [Result.andThen, sliced, Addr.add]
    · have hne : ¬ (cap = l) := hc
      simp [Result.andThen, sliced, Addr.add, hne, h0]
set_option maxRecDepth 100000 in
theorem from_bytesU (g n cap l : Nat) (h : l ≤ n) (hc : l < cap) (w : World) : (Instr.slice 83 (.slice (some ⟨g, 0, none⟩) n cap) (some (.int .u64 l)) none none).run Tryz.prog w = .ok (.slice (some ⟨g, l, none⟩) (n - l) (cap - l)) w := by
  rw [run_slice_l w 83 (some ⟨g, 0, none⟩) n cap Tryz.underlying83 .u64 (l : Int) (by omega) (by omega)]
  have hs : (sizeOf (Tryz.prog.elem 83)).run Tryz.prog w = .ok 1 w := by kernel_rfl
  rw [hs]
  have hne : ¬ cap = l := by omega
  simp [Result.andThen, sliced, Addr.add, hne]
  exact fun h => h.symm
set_option maxRecDepth 100000 in
set_option maxHeartbeats 4000000 in
theorem put_one (w : World) (lo mb pb pc : Nat) (pv : Value) (most : Int) (l : List UInt8) (h : PmAt w lo mb pb pc pv most l) (hlo : lo ≤ w.heap.size) (at_ : Nat) (bs : List UInt8) (h0 : 0 < bs.length) (hfit : at_ + bs.length ≤ 65536) (ib io ic : Nat) (hin : ∀ j (b : UInt8), bs[j]? = some b → w.cell? ⟨ib, io + j, none⟩ = some (.int .u8 (b.toNat : Int))) (hib : ¬ pmFoot mb pb pv ib) :
    Calls Tryz.prog 42 #[.pointer (some ⟨mb, 0, none⟩), .int .u64 (at_ : Int), .slice (some ⟨ib, io, none⟩) bs.length ic] w fun e w' => e = .returned (.tuple #[]) ∧ PmUpd w lo mb pb pc pv most (putL l at_ bs) w' := by
  have HP := Lib.hid (page_w w lo mb pb pc pv most l h hlo at_ (by omega))
  have HIN := Lib.hid hin
  obtain ⟨n, hn⟩ : ∃ n, bs.length = n := ⟨_, rfl⟩
  rw [hn]
  have HN := Lib.hid hn
  have hrem : (at_ : Int).tmod 65536 = (at_ : Int) := by rw [Int.tmod_eq_emod_of_nonneg (by omega)]; omega
  have hd0 : decide ((0 : Int) < (n : Int)) = true := decide_eq_true (by omega)
  have hd1 : decide (0 < n) = true := decide_eq_true (by omega)
  have hwn : IntKind.u64.wrap (n : Int) = (n : Int) := IntWalk.u64_in _ (by omega)
  have hwa : IntKind.u64.wrap ((at_ : Int) + (n : Int)) = (at_ : Int) + (n : Int) := IntWalk.u64_in _ (by omega)
  obtain ⟨q, hs2⟩ : ∃ q, ∀ W, (Instr.slice 83 (.slice (some ⟨ib, io, none⟩) n ic) (some (.int .i64 n)) none none).run Tryz.prog W = .ok (.slice (some ⟨ib, q, none⟩) (n - n) (ic - n)) W := ⟨_, from_bytes ib io n ic n (Nat.le_refl _)⟩
  have HH := Lib.hid h
  have HIB := Lib.hid hib
  clear h hin hib hn
  go_enter Tryz.func42, Tryz.ntmps42
  go_wp2_with fail
  refine wp_loop_rounds 2 ?_
  rw [rounds_succ]
  go_wp2_with fail
  refine HP.out.mono ?_
  rintro e w1 ⟨p, rfl, hP, hp, hk⟩
  obtain ⟨cur, hcur, hsz, hcl⟩ := hP.rowOf
  have hs1 := from_bytesU p 65536 65536 at_ (by omega) (by omega)
  have HC1 := Lib.hid hcur
  have HSRC := Lib.hid (show ∀ j v, (bytesV bs)[j]? = some v → w1.cell? ((⟨ib, io, none⟩ : Addr).add j) = some v from fun j v hv => by
    rw [show (⟨ib, io, none⟩ : Addr).add j = ⟨ib, io + j, none⟩ by rw [Addr.add_lit]]
    simp only [bytesV, List.getElem?_map, Option.map_eq_some_iff] at hv
    obtain ⟨b, hb, rfl⟩ := hv
    exact hk.cell (HIN.out j b hb) HIB.out)
  have HLN := Lib.hid (show (bytesV bs).length = n by rw [bytesV_len]; exact HN.out)
  have HMIN := Lib.hid (show (bytesV bs).length = Nat.min n (65536 - at_) by rw [HLN.out]; have := HN.out; show n = min n (65536 - at_); omega)
  have HFIT := Lib.hid (show at_ + (bytesV bs).length ≤ cur.size by rw [HLN.out, hsz]; have := HN.out; omega)
  obtain ⟨w2, hw2⟩ : ∃ w2, w1.setRow p (cur.toList.take at_ ++ bytesV bs ++ cur.toList.drop (at_ + (bytesV bs).length)).toArray = w2 := ⟨_, rfl⟩
  have hcp : (Builtin.copy_ #[83, 83] 3 #[.slice (some ⟨p, at_, none⟩) (65536 - at_) (65536 - at_), .slice (some ⟨ib, io, none⟩) n ic]).run Tryz.prog w1 = .ok (.int .i64 (n : Int)) w2 := by
    have h9 := run_copy_row (P := Tryz.prog) w1 83 83 3 5 p at_ (65536 - at_) (65536 - at_) ⟨ib, io, none⟩ n ic cur 5 (bytesV bs) Tryz.underlying83 (by kernel_rfl) HC1.out HMIN.out HSRC.out HFIT.out (bytes_one bs)
    rw [hw2] at h9
    rw [h9, HLN.out]
    rfl
  have ht := hP.turn (l' := putL l at_ bs) (cur' := (cur.toList.take at_ ++ bytesV bs ++ cur.toList.drop (at_ + (bytesV bs).length)).toArray) hcur (by have := HFIT.out; simp; omega) (by rw [bytesV_put, hcl, bytesV_len, List.toList_toArray, List.append_assoc]) (by rw [putL_len (by rw [hP.len]; exact hfit)]; exact hP.len)
  rw [hw2] at ht
  obtain ⟨t1, t2⟩ := ht
  have T1 := Lib.hid t1
  have T2 := Lib.hid t2
  have HK := Lib.hid hk
  have HPN := Lib.hid hp
  clear hP hcur hsz hcl hk hp hw2 t1 t2
  go_wp2_with fail
  go_quiet (fail)
  go_wp2_with fail
  rw [rounds_succ]
  go_wp2_with fail
  go_end0
  refine ⟨rfl, PmUpd.then_ (w1 := w2) ⟨_, T1.out, fun k hk => ?_, HK.out.trans T2.out (fun j hj => ?_)⟩ ⟨rfl, rfl, rfl, Nat.le_refl _, fun _ _ => rfl⟩⟩
  · have e : p = k := by simpa [Value.ownBlock] using hk
    rw [← e]
    exact HPN.out
  · rcases hj with hj | hj | hj
    · exact .inl (.inl hj)
    · exact .inl (.inr (.inl hj))
    · have e : p = j := by simpa [Value.ownBlock] using hj
      rw [← e]
      exact HPN.out.imp (fun h => .inr (.inr h)) id
end Go.Proofs.YtmbgemcddjailaaGreatDoor.Run

/- RunQ: A memory of one page: Write, get, Bytes. No condition beyond what each theorem names. -/
namespace Go.Proofs.YtmbgemcddjailaaGreatDoor.Run
open Go.RowKit Go.Maps Go.Proofs.YtmbgemcddjailaaGreatDoor.Op Go.Proofs.YtmbgemcddjailaaGreatDoor.Mod
set_option linter.unusedVariables false
set_option linter.unusedSimpArgs false
set_option maxRecDepth 100000 in
theorem put_nil (w : World) (mp a : Value) (ia : Option Addr) (ic : Nat) :
    Calls Tryz.prog 42 #[mp, a, .slice ia 0 ic] w fun e w' => e = .returned (.tuple #[]) ∧ Below w.heap.size w w' := by
  go_enter Tryz.func42, Tryz.ntmps42
  go_wp2_with fail
  refine wp_loop_rounds 1 ?_
  rw [rounds_succ]
  go_wp2_with fail
  go_end0
  exact ⟨rfl, Below.refl _ _⟩
set_option maxRecDepth 100000 in
set_option maxHeartbeats 4000000 in
theorem write_any (w : World) (lo mb pb pc : Nat) (pv : Value) (most : Int) (l : List UInt8) (h : PmAt w lo mb pb pc pv most l) (hlo : lo ≤ w.heap.size) (at_ : Nat) (ha : at_ < 18446744073709551616) (s : ByteArray) (hs : s.size ≤ 1000000) :
    Calls Tryz.prog 17 #[.pointer (some ⟨mb, 0, none⟩), .int .u64 (at_ : Int), .string s] w fun e w' => e = .returned (.bool (decide (at_ + s.size ≤ 65536))) ∧ PmUpd w lo mb pb pc pv most (if at_ + s.size ≤ 65536 then putL l at_ s.data.toList else l) w' := by
  have HHAS := Lib.hid (has_any w lo mb pb pc pv most l h at_ s.size ha (by omega))
  have HH := Lib.hid h
  have hsl : s.data.toList.length = s.size := rfl
  have HSL := Lib.hid hsl
  by_cases hf : at_ + s.size ≤ 65536
  · rw [if_pos hf]
    have hd : decide (at_ + s.size ≤ 65536) = true := decide_eq_true hf
    rw [hd] at HHAS ⊢
    have hcv := fun W => Lib.run_convert_string_bytes (P := Tryz.prog) W 9 83 5 s Tryz.underlying9 Tryz.underlying83 Tryz.underlying5
    clear h hd hsl
    go_enter Tryz.func17, Tryz.ntmps17
    go_wp2_with fail
    refine HHAS.out.mono ?_
    rintro e w1 ⟨rfl, b1⟩
    have B1 := Lib.hid b1
    clear b1
    go_wp2_with fail
    obtain ⟨W2, hW2⟩ : ∃ W2, Lib.bytesWorld w1 5 s = W2 := ⟨_, rfl⟩
    obtain ⟨cp, hcp⟩ : ∃ cp, grownCap w1 s.size 0 5 = cp := ⟨_, rfl⟩
    have b2 : Below w1.heap.size w1 W2 := by rw [← hW2]; exact ⟨rfl, rfl, rfl, by rw [Lib.bytesWorld_size]; omega, fun k hk => Lib.bytesWorld_at_old _ _ _ _ hk⟩
    have hin : ∀ j (b : UInt8), s.data.toList[j]? = some b → W2.cell? ⟨w1.heap.size, 0 + j, none⟩ = some (.int .u8 (b.toNat : Int)) := fun j b hj => by
      rw [Nat.zero_add, ← hW2, Lib.bytesWorld_cell _ _ _ _ (List.getElem?_eq_some_iff.1 hj).1, List.getD_eq_getElem?_getD, hj]
      rfl
    rw [hW2, hcp]
    have B2 := Lib.hid (B1.out.trans (b2.mono B1.out.size))
    have hpm := HH.out.later B2.out
    clear hcv hW2 hcp
    rcases Nat.eq_zero_or_pos s.size with h0 | h0
    · have hnil : s.data.toList = [] := List.eq_nil_of_length_eq_zero (by rw [HSL.out]; exact h0)
      have HNL := Lib.hid (show l = putL l at_ s.data.toList by rw [hnil, putL_nil])
      rw [h0]
      clear hnil
      refine (put_nil W2 _ _ _ _).mono ?_
      rintro e w3 ⟨rfl, b3⟩
      have B3 := Lib.hid (B2.out.trans (b3.mono B2.out.size))
      clear b3 b2 hin hpm
      go_wp2_with fail
      go_ret
      exact ⟨rfl, by rw [← HNL.out]; exact (PmUpd.same HH.out).then_ B3.out⟩
    · have HP := Lib.hid (put_one W2 lo mb pb pc pv most l hpm (Nat.le_trans hlo B2.out.size) at_ s.data.toList (by rw [HSL.out]; exact h0) (by rw [HSL.out]; exact hf) w1.heap.size 0 cp hin (fun hq => by have h8 := (HH.out.foot_lt _ hq).2; have h9 := B1.out.size; omega))
      clear b2 hin hpm
      refine HP.out.mono ?_
      rintro e w3 ⟨rfl, u3⟩
      have U3 := Lib.hid (PmUpd.after B2.out u3)
      clear u3
      go_wp2_with fail
      go_ret
      exact ⟨rfl, U3.out⟩
  · rw [if_neg hf]
    have hd : decide (at_ + s.size ≤ 65536) = false := decide_eq_false hf
    rw [hd] at HHAS ⊢
    clear h hd hsl
    go_enter Tryz.func17, Tryz.ntmps17
    go_wp2_with fail
    refine HHAS.out.mono ?_
    rintro e w1 ⟨rfl, b1⟩
    have B1 := Lib.hid b1
    clear b1
    go_wp2_with fail
    go_ret
    exact ⟨rfl, (PmUpd.same HH.out).then_ B1.out⟩
theorem neq_nil (w : World) (a : Option Addr) (n c : Nat) : (binOp .neq 83 (.slice a n c) (.slice none 0 0)).run Tryz.prog w = .ok (.bool (!a.isNone)) w := run_neq_slice_nil_any w _ _ a n c 0 0 Tryz.underlying83
set_option maxRecDepth 100000 in
theorem cut_bytes8 (a : Option Addr) (n cap m : Nat) (h : m ≤ cap) (w : World) : (Instr.slice 83 (.slice a n cap) none (some (.int .i64 m)) none).run Tryz.prog w = .ok (.slice a m cap) w := by
  rw [run_slice_h w 83 a n cap Tryz.underlying83 .i64 (m : Int) (by omega) (by omega)]
  have hs : (sizeOf (Tryz.prog.elem 83)).run Tryz.prog w = .ok 1 w := by kernel_rfl
  rw [hs]
  cases a <;> simp [Result.andThen, sliced, Addr.add]
theorem take_zero_bytes (k n : Nat) (h : k + n ≤ 65536) : (zeroL.drop k).take n = List.replicate n 0 := by
  unfold zeroL
  rw [List.drop_replicate, List.take_replicate]
  congr 1
  omega
set_option maxRecDepth 100000 in
set_option maxHeartbeats 4000000 in
theorem get_one (w : World) (lo mb pb pc : Nat) (pv : Value) (most : Int) (l : List UInt8) (h : PmAt w lo mb pb pc pv most l) (at_ n : Nat) (h0 : 0 < n) (hfit : at_ + n ≤ 65536) (ob : Nat) (cur : Array Value) (hob : w.heap[ob]? = some (.cells cur 5 (0, 0))) (hz : cur.size = n) (hcz : cur.toList = bytesV (List.replicate n 0)) (hnf : ¬ pmFoot mb pb pv ob) :
    Calls Tryz.prog 23 #[.pointer (some ⟨mb, 0, none⟩), .int .u64 (at_ : Int), .slice (some ⟨ob, 0, none⟩) n n] w fun e w' => e = .returned (.tuple #[]) ∧ (∃ cur' : Array Value, w'.heap[ob]? = some (.cells cur' 5 (0, 0)) ∧ cur'.toList = bytesV ((l.drop at_).take n)) ∧ Keeps (fun j => j = ob) w w' := by
  have HP := Lib.hid (fun W (hb : Below w.heap.size w W) => page_r W lo mb pb pc pv most l (h.later hb) at_ (by omega))
  have hrem : (at_ : Int).tmod 65536 = (at_ : Int) := by rw [Int.tmod_eq_emod_of_nonneg (by omega)]; omega
  have hd0 : decide ((0 : Int) < (n : Int)) = true := decide_eq_true (by omega)
  have hd1 : decide (0 < n) = true := decide_eq_true (by omega)
  have hwi : IntKind.i64.wrap (at_ : Int) = (at_ : Int) := IntWalk.i64_in _ (by omega)
  have hws : IntKind.i64.wrap (65536 - (at_ : Int)) = 65536 - (at_ : Int) := IntWalk.i64_in _ (by omega)
  have hmin : min (n : Int) (65536 - (at_ : Int)) = (n : Int) := by omega
  have hwn : IntKind.u64.wrap (n : Int) = (n : Int) := IntWalk.u64_in _ (by omega)
  have hwa : IntKind.u64.wrap ((at_ : Int) + (n : Int)) = (at_ : Int) + (n : Int) := IntWalk.u64_in _ (by omega)
  obtain ⟨q, hs2⟩ : ∃ q, ∀ W, (Instr.slice 83 (.slice (some ⟨ob, 0, none⟩) n n) (some (.int .i64 n)) none none).run Tryz.prog W = .ok (.slice (some ⟨ob, q, none⟩) (n - n) (n - n)) W := ⟨_, from_bytes ob 0 n n n (Nat.le_refl _)⟩
  have hs3 := cut_bytes8 (some ⟨ob, 0, none⟩) n n n (Nat.le_refl _)
  have qN := neq_nil
  have hform : (pv = .slice none 0 0 ∧ l = zeroL) ∨ ∃ p, pv = .slice (some ⟨p, 0, none⟩) 65536 65536 := h.page.imp id (fun ⟨p, h1, _⟩ => ⟨p, h1⟩)
  have HH := Lib.hid h
  have HOB := Lib.hid hob
  have HCZ := Lib.hid hcz
  have HZ := Lib.hid hz
  have HNF := Lib.hid hnf
  clear h hob hcz hz hnf
  go_enter Tryz.func23, Tryz.ntmps23
  go_wp2_with fail
  refine wp_loop_rounds 2 ?_
  rw [rounds_succ]
  go_wp2_with fail
  refine (HP.out w (Below.refl _ _)).mono ?_
  rintro e w1 ⟨rfl, b1⟩
  have B1 := Lib.hid b1
  clear b1
  rcases hform with ⟨rfl, hl⟩ | ⟨p, rfl⟩
  · have HL := Lib.hid hl
    clear hl
    go_wp2_with fail
    go_quiet (fail)
    go_wp2_with fail
    rw [rounds_succ]
    go_wp2_with fail
    go_end0
    exact ⟨rfl, ⟨cur, (B1.out.block ob (Array.getElem?_eq_some_iff.1 HOB.out).1).trans HOB.out, by rw [HL.out, take_zero_bytes _ _ hfit]; exact HCZ.out⟩, Keeps.of_below ⟨B1.out.os, B1.out.tape, B1.out.output, B1.out.size, B1.out.block⟩⟩
  · obtain ⟨pcur, hpc, hpz, hpl⟩ := (HH.out.later B1.out).rowOf
    have hob1 := (B1.out.block ob (Array.getElem?_eq_some_iff.1 HOB.out).1).trans HOB.out
    obtain ⟨wd, hwd⟩ : ∃ wd, w1.drew = wd := ⟨_, rfl⟩
    have hwh : wd.heap = w1.heap := by rw [← hwd]; rfl
    have hs1 : ∀ W, (Instr.slice 83 (.slice (some ⟨p, 0, none⟩) 65536 65536) (some (.int .i64 at_)) none none).run Tryz.prog W = .ok (.slice (some ⟨p, at_, none⟩) (65536 - at_) (65536 - at_)) W := fun W => by
      have h9 := from_bytes p 0 65536 65536 at_ (by omega) W
      rw [if_neg (by omega), Nat.zero_add] at h9
      exact h9
    obtain ⟨cs, hcs⟩ : ∃ cs, bytesV ((l.drop at_).take n) = cs := ⟨_, rfl⟩
    have hcl : cs.length = n := by rw [← hcs, bytesV_len, List.length_take, List.length_drop, HH.out.len]; omega
    obtain ⟨w2, hw2⟩ : ∃ w2, wd.setRow ob (cur.toList.take 0 ++ cs ++ cur.toList.drop (0 + cs.length)).toArray = w2 := ⟨_, rfl⟩
    have hcp : (Builtin.copy_ #[83, 83] 3 #[.slice (some ⟨ob, 0, none⟩) n n, .slice (some ⟨p, at_, none⟩) (65536 - at_) (65536 - at_)]).run Tryz.prog wd = .ok (.int .i64 (n : Int)) w2 := by
      have h9 := run_copy_row (P := Tryz.prog) wd 83 83 3 5 ob 0 n n ⟨p, at_, none⟩ (65536 - at_) (65536 - at_) cur 5 cs Tryz.underlying83 (by kernel_rfl) (by rw [hwh]; exact hob1) (by rw [hcl]; show n = min (65536 - at_) n; omega) (fun j v hv => by
        rw [cell_heap hwh, show (⟨p, at_, none⟩ : Addr).add j = ⟨p, at_ + j, none⟩ by rw [Addr.add_lit], cell_of_row _ _ _ _ _ _ hpc, ← Array.getElem?_toList, hpl]
        rw [← hcs] at hv
        simp only [bytesV, List.map_take, List.map_drop] at hv
        have hj : j < n := by
          have := (List.getElem?_eq_some_iff.1 hv).1
          rw [List.length_take] at this
          omega
        rw [List.getElem?_take_of_lt hj, List.getElem?_drop] at hv
        exact hv) (by rw [hcl]; have := HZ.out; omega) (by rw [← hcs]; exact bytes_one _)
      rw [hw2] at h9
      rw [h9, hcl]
      rfl
    have hw2h : w2.heap[ob]? = some (.cells (cur.toList.take 0 ++ cs ++ cur.toList.drop (0 + cs.length)).toArray 5 (0, 0)) := by rw [← hw2]; exact setRow_heap wd ob _ _ _ _ (by rw [hwh]; exact hob1)
    have HW2 := Lib.hid hw2h
    have HK2 := Lib.hid (show Keeps (fun j => j = ob) w w2 by
      rw [← hw2, ← hwd]
      exact (Keeps.of_below (F := fun j => j = ob) B1.out.drew).trans (G := fun j => j = ob) (show Keeps (fun j => j = ob) w1.drew (w1.drew.setRow ob (cur.toList.take 0 ++ cs ++ cur.toList.drop (0 + cs.length)).toArray) from ⟨rfl, rfl, rfl, by simp, fun k hk hf => setRow_other _ _ _ _ hf⟩) (fun j hj => .inl hj))
    have HCS := Lib.hid hcs
    have HCL := Lib.hid hcl
    clear hpc hpz hpl hob1 hwh hcs hcl hw2 hw2h
    go_wp2_with fail
    go_still_tail 6, (by kernel_rfl)
    change wpList _ _ _ _ _ w1.drew
    rw [hwd]
    clear hwd
    go_wp2_with fail
    go_quiet (fail)
    go_wp2_with fail
    rw [rounds_succ]
    go_wp2_with fail
    go_end0
    refine ⟨rfl, ⟨_, HW2.out, ?_⟩, HK2.out.trans (Keeps.of_below ⟨rfl, rfl, rfl, Nat.le_refl _, fun _ _ => rfl⟩) (fun j hj => .inl hj)⟩
    rw [HCS.out, HCL.out, List.toList_toArray, List.take_zero, List.nil_append, Nat.zero_add, List.drop_eq_nil_of_le (by rw [Array.length_toList, HZ.out]; exact Nat.le_refl _), List.append_nil]
end Go.Proofs.YtmbgemcddjailaaGreatDoor.Run

/- RunR: A memory of one page: Bytes; a new memory. No condition beyond what each theorem names. -/
namespace Go.Proofs.YtmbgemcddjailaaGreatDoor.Run
open Go.RowKit Go.Maps Go.Proofs.YtmbgemcddjailaaGreatDoor.Op Go.Proofs.YtmbgemcddjailaaGreatDoor.Mod
set_option linter.unusedVariables false
set_option linter.unusedSimpArgs false
set_option maxRecDepth 100000 in
theorem make_bytes (n : Nat) (hn : n ≤ 10000000) (W : World) : (Instr.makeSlice 83 (.int .i64 (n : Int)) (.int .i64 (n : Int))).run Tryz.prog W = .ok (.slice (some ⟨W.heap.size, 0, none⟩) n n) (W.alloc (.cells (Array.replicate n (Value.int .u8 0)) 5)) := by
  obtain ⟨i0, hi, hz0, hz1, hz2⟩ := info_of info_byte
  have h := run_make (P := Tryz.prog) W 83 5 i0 (.int .u8 0) Tryz.underlying83 hi hz0 .i64 .i64 (n : Int) (n : Int) (by omega) (by omega) (by rw [hz2]; omega) (by omega)
  rw [h, hz1, Int.toNat_natCast]
  have e : madeCells (Value.int .u8 0).cells (n * 1) = Array.replicate n (Value.int .u8 0) := by
    apply Array.toList_inj.1
    show (madeCells #[Value.int .u8 0] (n * 1)).toList = _
    rw [toList_madeCells_one, Nat.mul_one, Array.toList_replicate]
  rw [e]
set_option maxRecDepth 100000 in
theorem get_nil (w : World) (mp a : Value) (ia : Option Addr) (ic : Nat) :
    Calls Tryz.prog 23 #[mp, a, .slice ia 0 ic] w fun e w' => e = .returned (.tuple #[]) ∧ Below w.heap.size w w' := by
  go_enter Tryz.func23, Tryz.ntmps23
  go_wp2_with fail
  refine wp_loop_rounds 1 ?_
  rw [rounds_succ]
  go_wp2_with fail
  go_end0
  exact ⟨rfl, Below.refl _ _⟩
/-- the bytes from a place on -/
def cutL (l : List UInt8) (k n : Nat) : ByteArray := ⟨((l.drop k).take n).toArray⟩
set_option maxRecDepth 100000 in
set_option maxHeartbeats 4000000 in
theorem bytes_any (w : World) (lo mb pb pc : Nat) (pv : Value) (most : Int) (l : List UInt8) (h : PmAt w lo mb pb pc pv most l) (at_ : Nat) (ha : at_ < 18446744073709551616) (n : Nat) (hn : n ≤ 1000000) :
    Calls Tryz.prog 10 #[.pointer (some ⟨mb, 0, none⟩), .int .u64 (at_ : Int), .int .i64 (n : Int)] w fun e w' => e = .returned (.tuple #[.string (if at_ + n ≤ 65536 then cutL l at_ n else ⟨#[]⟩), .bool (decide (at_ + n ≤ 65536))]) ∧ Below w.heap.size w w' := by
  have HHAS := Lib.hid (has_any w lo mb pb pc pv most l h at_ n ha (by omega))
  have HH := Lib.hid h
  by_cases hf : at_ + n ≤ 65536
  · rw [if_pos hf]
    have hd : decide (at_ + n ≤ 65536) = true := decide_eq_true hf
    rw [hd] at HHAS ⊢
    have hmk := make_bytes n (by omega)
    clear h hd
    go_enter Tryz.func10, Tryz.ntmps10
    go_wp2_with fail
    refine HHAS.out.mono ?_
    rintro e w1 ⟨rfl, b1⟩
    have B1 := Lib.hid b1
    clear b1
    go_upto_region 4 with fail
    obtain ⟨W2, hW2⟩ : ∃ W2, w1.alloc (.cells (Array.replicate n (Value.int .u8 0)) 5) = W2 := ⟨_, rfl⟩
    have b2 : Below w1.heap.size w1 W2 := by rw [← hW2]; exact (Below.refl _ _).alloc (Nat.le_refl _) _
    have r2 : W2.heap[w1.heap.size]? = some (.cells (Array.replicate n (Value.int .u8 0)) 5 (0, 0)) := by rw [← hW2]; exact heap_alloc_new _ _
    obtain ⟨ob, hob⟩ : ∃ ob, w1.heap.size = ob := ⟨_, rfl⟩
    rw [hW2, hob]
    rw [hob] at r2
    have B2 := Lib.hid (B1.out.trans (b2.mono B1.out.size))
    have hpm := HH.out.later B2.out
    have hob0 : w.heap.size ≤ ob := by have := B1.out.size; omega
    clear hW2 b2 hmk hob
    rcases Nat.eq_zero_or_pos n with h0 | h0
    · subst h0
      have hz : cutL l at_ 0 = ⟨#[]⟩ := by unfold cutL; simp
      have HZ := Lib.hid hz
      have hcv : ∀ W, (convert 83 9 (.slice (some ⟨ob, 0, none⟩) 0 0)).run Tryz.prog W = .ok (.string ⟨#[]⟩) W := fun W => by
        have h9 := run_convert_bytes_back (P := Tryz.prog) W 83 9 5 ⟨ob, 0, none⟩ 0 [] Tryz.underlying83 Tryz.underlying5 Tryz.underlying9 (fun j hj => by simp at hj)
        exact h9
      go_wp2_with fail
      refine (get_nil W2 _ _ _ _).mono ?_
      rintro e w3 ⟨rfl, b3⟩
      have B3 := Lib.hid (B2.out.trans (b3.mono B2.out.size))
      clear b3 r2 hpm hz
      go_wp2_with fail
      go_ret2
      exact ⟨by rw [HZ.out]; rfl, B3.out⟩
    · have HG := Lib.hid (get_one W2 lo mb pb pc pv most l hpm at_ n h0 hf ob _ r2 Array.size_replicate (by rw [Array.toList_replicate]; simp [bytesV]) (fun hq => by have h8 := (HH.out.foot_lt _ hq).2; omega))
      clear r2 hpm
      go_wp2_with fail
      refine HG.out.mono ?_
      rintro e w3 ⟨rfl, ⟨cur, hc1, hc2⟩, hk⟩
      have hcv : (convert 83 9 (.slice (some ⟨ob, 0, none⟩) n n)).run Tryz.prog w3 = .ok (.string (cutL l at_ n)) w3 := by
        have hll : ((l.drop at_).take n).length = n := by rw [List.length_take, List.length_drop, HH.out.len]; omega
        have h9 := run_convert_bytes_back (P := Tryz.prog) w3 83 9 5 ⟨ob, 0, none⟩ n ((l.drop at_).take n) Tryz.underlying83 Tryz.underlying5 Tryz.underlying9 (fun j hj => by
          rw [show (⟨ob, 0, none⟩ : Addr).add j = ⟨ob, j, none⟩ by rw [Addr.add_lit, Nat.zero_add], cell_of_row _ _ _ _ _ _ hc1, ← Array.getElem?_toList, hc2]
          simp only [bytesV, List.getElem?_map, List.getElem?_eq_getElem hj, Option.map_some])
        rw [hll] at h9
        exact h9
      have B3 := Lib.hid (show Below w.heap.size w w3 from B2.out.trans (hk.below (fun j hj => hj ▸ hob0) B2.out.size))
      clear hc1 hc2 hk HG
      go_wp2_with fail
      go_ret2
      exact ⟨rfl, B3.out⟩
  · rw [if_neg hf]
    have hd : decide (at_ + n ≤ 65536) = false := decide_eq_false hf
    rw [hd] at HHAS ⊢
    clear h hd
    go_enter Tryz.func10, Tryz.ntmps10
    go_wp2_with fail
    refine HHAS.out.mono ?_
    rintro e w1 ⟨rfl, b1⟩
    have B1 := Lib.hid b1
    clear b1
    go_wp2_with fail
    go_ret2
    exact ⟨rfl, B1.out⟩
end Go.Proofs.YtmbgemcddjailaaGreatDoor.Run
