/-
  RunB, RunC in one.
-/
import Derived.Test.YtmbgemcddjailaaGreatDoorRnA
import Derived.Laws.CopyRow
import Derived.Deep.RegionLaw
import Derived.BigRegion
import Derived.StillTailTactics
/- RunB: What unwind and returns do. No condition beyond what each theorem names. -/
namespace Go.Proofs.YtmbgemcddjailaaGreatDoor.Run
open Go.RowKit Go.Maps Go.Proofs.YtmbgemcddjailaaGreatDoor.Op Go.Proofs.YtmbgemcddjailaaGreatDoor.Mod
set_option linter.unusedVariables false
/-- copy within rows of a cell an element, as one step of a region that draws -/
theorem step_copy_row {P : Program} {ops : Array Oper} {o : Oper} {a : Act} {w : World} {K : Act → World → Prop} {Q : Exit → Act → World → Prop} {E : Prop} (hgd : o.guard = none) (d s : Operand) (dT sT : TypeId)
    (ho : o.op = .call { callee := .builtin .copy, args := #[d, s], argTypes := #[dT, sT] }) (elem : TypeId) (hu : P.underlying dT = some (.slice elem)) (hsz : (P.info? elem).map (·.size) = some 1)
    (g off dLen dCap : Nat) (ad : Addr) (sLen sCap : Nat) (hd : a.eval d = .slice (some ⟨g, off, none⟩) dLen dCap) (hs : a.eval s = .slice (some ad) sLen sCap)
    (cur : Array Value) (t : TypeId) (hg : w.heap[g]? = some (.cells cur t (0, 0))) (cs : List Value) (hn : cs.length = Nat.min sLen dLen)
    (hsrc : ∀ j v, cs[j]? = some v → w.cell? (ad.add j) = some v) (hfit : off + cs.length ≤ cur.size) (h1 : ∀ v ∈ cs, v.oneCell' = true) (m : Nat) (hm : cs.length = m)
    (h : ∀ w', Hid (w' = w.setRow g (cur.toList.take off ++ cs ++ cur.toList.drop (off + cs.length)).toArray) → K (a.put o.dst (goInt m)) w') :
    if Region.wanted o (yielded ops a.tmps) = true then Oper.wp P o a w K Q else E := by
  have hw : Region.wanted o (yielded ops a.tmps) = true := by simp [Region.wanted, hgd]
  rw [if_pos hw]
  have hrun := run_copy_row (P := P) w dT sT o.type elem g off dLen dCap ad sLen sCap cur t cs hu hsz hg hn hsrc hfit h1
  unfold Oper.wp
  simp [execOp, ho, resolve, invoke, builtin, hd, hs, hrun, Result.andThen]
  rw [hm]
  exact h _ (Lib.hid (by simp [hm]))
theorem cell_heap {w w' : World} (h : w'.heap = w.heap) (a : Addr) : w'.cell? a = w.cell? a := by unfold World.cell?; rw [h]
set_option maxRecDepth 100000 in
theorem from_nats (g n cap l : Nat) (h : l ≤ n) (hc : l < cap) (w : World) : (Instr.slice 46 (.slice (some ⟨g, 0, none⟩) n cap) (some (.int .i64 l)) none none).run Tryz.prog w = .ok (.slice (some ⟨g, l, none⟩) (n - l) (cap - l)) w := by
  rw [run_slice_l w 46 (some ⟨g, 0, none⟩) n cap Tryz.underlying46 .i64 (l : Int) (by omega) (by omega)]
  have hs : (sizeOf (Tryz.prog.elem 46)).run Tryz.prog w = .ok 1 w := by kernel_rfl
  rw [hs]
  have hne : ¬ cap = l := by omega
  simp [Result.andThen, sliced, Addr.add, hne]
  exact fun h => h.symm
/-- a row turned in place -/
theorem own_setRow {w : World} {B : Nat} {g cap n : Nat} {e : TypeId} {xs : List Value} {cur : Array Value} (h : w.ownsRow B e 1 (.slice (some ⟨g, 0, none⟩) n cap) n xs) (hg : w.heap[g]? = some (.cells cur e (0, 0))) {cur' : Array Value} (hz : cur'.size = cur.size) {ys : List Value} (hy : cur'.toList.take n = ys) : (w.setRow g cur').ownsRow B e 1 (.slice (some ⟨g, 0, none⟩) n cap) n ys := by
  rcases h.2 with ⟨h1, _⟩ | ⟨g', cap', c2, h1, hb, hg2, h2, h3, h4, h5⟩
  · simp at h1
  · simp only [Value.slice.injEq, Option.some.injEq, Addr.mk.injEq] at h1
    obtain ⟨⟨rfl, _⟩, _, rfl⟩ := h1
    rw [hg] at hg2
    simp only [Option.some.injEq, Obj.cells.injEq, and_true] at hg2
    subst hg2
    refine ⟨?_, .inr ⟨g, cap, cur', rfl, hb, setRow_heap w g _ _ _ _ hg, h2, h3, by omega, by rw [Nat.mul_one]; exact hy⟩⟩
    rw [← hy, List.length_take, Array.length_toList]
    omega
theorem TAt.turnStk {w : World} {B tb : Nat} {E : Tc} {x : Tx} {t : Th} (h : TAt w B tb E x t) {g cap : Nat} (hx : x.sv = .slice (some ⟨g, 0, none⟩) t.stack.length cap) {cur cur' : Array Value} (hg : w.heap[g]? = some (.cells cur 22 (0, 0))) (hz : cur'.size = cur.size) {l : List Nat} (hl : l.length = t.stack.length) (hy : cur'.toList.take t.stack.length = natsV l) : Upd w B tb E x { t with stack := l } (w.setRow g cur') := by
  obtain ⟨r0, r1, r2, r3⟩ := h.rest
  have hgo : x.sv.ownBlock = some g := by rw [hx]; rfl
  have hold : ∀ q, q ≠ g → (w.setRow g cur').heap[q]? = w.heap[q]? := fun q hq => setRow_other w g q cur' hq
  have hs := h.stk
  rw [hx] at hs
  refine ⟨x, ⟨(hold tb (r1 g hgo).1.symm).trans h.box, h.low, ?_, ?_, ownsRow_of h.loc (fun q hq => hold q (fun e => (r2 q hq).2.2.1 (e ▸ hgo))), ownsRow_of h.blk (fun q hq => hold q (fun e => (r3 q hq).2.2.1 (e ▸ hgo))), h.ne⟩, fun j hj => .inl hj, ⟨rfl, rfl, rfl, by simp, fun q hq hf => hold q (fun e => hf (e ▸ .inr (.inr (.inl hgo))))⟩⟩
  · exact ownsRow_of (v := .slice (some ⟨E.g, 0, none⟩) 1 E.gc) h.frm (fun q hq => hold q (by
      have e : E.g = q := by simpa [Value.ownBlock] using hq
      rw [← e]
      exact (r1 g hgo).2.1.symm))
  · show World.ownsRow _ _ _ _ x.sv l.length (natsV l)
    rw [hx, hl]
    exact own_setRow hs hg hz hy
theorem nats_one (l : List Nat) : ∀ u ∈ natsV l, u.oneCell' = true := by
  intro u hu
  obtain ⟨x, _, rfl⟩ := List.mem_map.1 hu
  rfl
/-- what unwinding leaves of a stack -/
def unwindL (l : List Nat) (H M : Nat) : List Nat := l.take H ++ l.drop (l.length - M)
set_option maxRecDepth 100000 in
set_option maxHeartbeats 4000000 in
theorem unwind_any (w : World) (B tb : Nat) (E : Tc) (x : Tx) (t : Th) (H M : Nat) (h : TAt w B tb E x t) (hM : 0 < M) (hL : H + M ≤ t.stack.length) (hS : t.stack.length < 3000000000000) :
    Calls Tryz.prog 113 #[.pointer (some ⟨tb, 0, none⟩), .int .i64 (H : Int), .int .i64 (M : Int)] w fun e w' => e = .returned (.tuple #[]) ∧ Upd w B tb E x { t with stack := unwindL t.stack H M } w' := by
  obtain ⟨a, cap, hx, hcap, hform⟩ := nats_form h.stk
  obtain ⟨g2, rfl, hown, hgl2, hat, hfz⟩ := hform (by omega)
  obtain ⟨L, hLe⟩ : ∃ L, t.stack.length = L := ⟨_, rfl⟩
  obtain ⟨D, hD⟩ : ∃ D, L - M = D := ⟨_, rfl⟩
  obtain ⟨cur, hcur, hsz, htk⟩ : ∃ cur : Array Value, w.heap[g2]? = some (.cells cur 22 (0, 0)) ∧ cur.size = cap ∧ cur.toList.take L = natsV t.stack := by
    have hs := h.stk
    rw [hx] at hs
    rcases hs.2 with ⟨h1, _⟩ | ⟨g', cap', c2, h1, hb, hg2, h2, h3, h4, h5⟩
    · simp at h1
    · simp only [Value.slice.injEq, Option.some.injEq, Addr.mk.injEq] at h1
      obtain ⟨⟨rfl, _⟩, _, rfl⟩ := h1
      exact ⟨c2, hg2, by omega, by rw [← hLe, ← h5, Nat.mul_one]⟩
  obtain ⟨cs, hcs⟩ : ∃ cs, natsV (t.stack.drop D) = cs := ⟨_, rfl⟩
  have hcl : cs.length = M := by rw [← hcs]; simp [natsV]; omega
  have HCS1 := Lib.hid (show ∀ v ∈ cs, v.oneCell' = true by rw [← hcs]; exact nats_one _)
  have HSRC := Lib.hid (show ∀ W : World, W.heap = w.heap → ∀ j v, cs[j]? = some v → W.cell? ((⟨g2, D, none⟩ : Addr).add j) = some v from fun W hW j v hv => by
    rw [cell_heap hW, show (⟨g2, D, none⟩ : Addr).add j = ⟨g2, D + j, none⟩ by rw [Addr.add_lit]]
    rw [← hcs] at hv
    simp only [natsV, List.getElem?_map, List.getElem?_drop, Option.map_eq_some_iff] at hv
    obtain ⟨n, hn, rfl⟩ := hv
    exact hat _ n hn)
  have HG := Lib.hid (show ∀ W : World, W.heap = w.heap → W.heap[g2]? = some (.cells cur 22 (0, 0)) from fun W hW => by rw [hW]; exact hcur)
  have hk := (h.later (w' := w.drew) (Below.refl _ _).drew).turnStk hx (cur := cur) hcur (cur' := (cur.toList.take H ++ cs ++ cur.toList.drop (H + M)).toArray) (by simp; omega) (l := t.stack.take H ++ t.stack.drop D ++ t.stack.drop (H + M)) (by simp; omega) (by
    rw [hLe]
    have e1 : natsV (t.stack.take H ++ t.stack.drop D ++ t.stack.drop (H + M)) = (natsV t.stack).take H ++ cs ++ (natsV t.stack).drop (H + M) := by rw [← hcs]; simp [natsV]
    rw [e1, ← htk]
    have h1 : (cur.toList.take L).take H = cur.toList.take H := by rw [List.take_take]; congr 1; omega
    have h2 : (cur.toList.take L).drop (H + M) = (cur.toList.drop (H + M)).take (L - (H + M)) := by rw [List.drop_take]
    rw [h1, h2, List.toList_toArray, List.take_append, List.take_of_length_le (by simp; omega)]
    congr 2
    simp
    omega)
  have hfin : ∀ W : World, W = w.drew.setRow g2 (cur.toList.take H ++ cs ++ cur.toList.drop (H + M)).toArray → Upd w B tb E x { t with stack := unwindL t.stack H M } (W.setCell ⟨tb, 1, none⟩ (.slice (some ⟨g2, 0, none⟩) (H + M) cap)) ∧ W.cell? ⟨tb, 1, none⟩ = some (.slice (some ⟨g2, 0, none⟩) L cap) ∧ W.frozen? ⟨tb, 1, none⟩ = false := by
    rintro W rfl
    obtain ⟨x1, hA, hf, hkp⟩ := hk
    have hx1 : ∀ j, j ≠ g2 → (w.drew.setRow g2 (cur.toList.take H ++ cs ++ cur.toList.drop (H + M)).toArray).heap[j]? = w.heap[j]? := fun j hj => setRow_other _ _ _ _ hj
    have hne : tb ≠ g2 := fun e => (h.rest.2.1 g2 (by rw [hx]; rfl)).1 e.symm
    have hc1 : (w.drew.setRow g2 (cur.toList.take H ++ cs ++ cur.toList.drop (H + M)).toArray).cell? ⟨tb, 1, none⟩ = some (.slice (some ⟨g2, 0, none⟩) L cap) := (World.cell?_of_block (a := ⟨tb, 1, none⟩) (hx1 tb hne)).trans (by rw [h.cells.2.1, hx, hLe])
    have hsv : x1.sv = .slice (some ⟨g2, 0, none⟩) L cap := by
      have := hA.cells.2.1
      rw [hc1] at this
      exact (Option.some.inj this).symm
    refine ⟨Upd.after (Below.refl _ _).drew (Upd.trans hf hkp ?_), hc1, hA.frozen 1⟩
    have hlen2 : (t.stack.take H ++ t.stack.drop D ++ t.stack.drop (H + M)).length = L := by simp; omega
    have hcut := hA.cut (a := some ⟨g2, 0, none⟩) (cap := cap) (m := H + M) (by rw [hsv]; show _ = Value.slice _ (t.stack.take H ++ t.stack.drop D ++ t.stack.drop (H + M)).length _; rw [hlen2]) (by show _ ≤ (t.stack.take H ++ t.stack.drop D ++ t.stack.drop (H + M)).length; omega)
    have hun : (t.stack.take H ++ t.stack.drop D ++ t.stack.drop (H + M)).take (H + M) = unwindL t.stack H M := by
      unfold unwindL
      rw [List.take_append_of_le_length (by simp; omega), List.take_of_length_le (by simp; omega), hLe, hD]
    rw [← hun]
    exact hcut
  have HFIN := Lib.hid hfin
  have c1 := h.cells.2.1
  rw [hx, hLe] at c1
  have hbl := h.lt
  have fz := h.frozen 1
  have s1 := from_nats g2 L cap H (by omega) (by omega)
  have s2 := from_nats g2 L cap D (by omega) (by omega)
  have s3 : ∀ W, (Instr.slice 46 (.slice (some ⟨g2, 0, none⟩) L cap) none (some (.int .i64 ((H : Int) + (M : Int)))) none).run Tryz.prog W = .ok (.slice (some ⟨g2, 0, none⟩) (H + M) cap) W := fun W => by
    have := cut_nats (some ⟨g2, 0, none⟩) L cap (H + M) (by omega) W
    rwa [show ((H + M : Nat) : Int) = (H : Int) + (M : Int) by omega] at this
  have a1 : IntKind.i64.wrap ((L : Int) - (M : Int)) = (D : Int) := by rw [IntWalk.i64_in _ (by omega)]; omega
  have a2 : IntKind.i64.wrap ((H : Int) + (M : Int)) = (H : Int) + (M : Int) := IntWalk.i64_in _ (by omega)
  have HN := Lib.hid (show cs.length = Nat.min (L - D) (L - H) by rw [hcl]; show M = min (L - D) (L - H); omega)
  have HFIT := Lib.hid (show H + cs.length ≤ cur.size by omega)
  have HCL := Lib.hid hcl
  clear h hx hform hown hat hfz hcur htk hcs hcl hk hfin hLe hM hcap
  go_enter Tryz.func113, Tryz.ntmps113
  go_region_law ((refine step_copy_row (by rfl) _ _ _ _ (by rfl) 22 Tryz.underlying46 (by kernel_rfl) g2 H (L - H) (cap - H) ⟨g2, D, none⟩ (L - D) (cap - D) (by rfl) (by rfl) cur 22 (HG.out _ rfl) cs HN.out (HSRC.out _ rfl) HFIT.out HCS1.out M HCL.out ?_; intro w1 hw1; rw [HCL.out] at hw1; obtain ⟨u1, cz, fz1⟩ := HFIN.out w1 (by exact hw1.out)))
  all_goals
    have HU := Lib.hid u1
    clear hw1 u1
    go_wp2_with fail
    go_end0
    exact ⟨rfl, HU.out⟩
end Go.Proofs.YtmbgemcddjailaaGreatDoor.Run

/- RunC: What returns does; a step that control, or simple, does. No condition beyond what each theorem names. -/
namespace Go.Proofs.YtmbgemcddjailaaGreatDoor.Run
open Go.RowKit Go.Maps Go.Proofs.YtmbgemcddjailaaGreatDoor.Op Go.Proofs.YtmbgemcddjailaaGreatDoor.Mod
set_option linter.unusedVariables false
/-- a thread whose function has ended -/
structure DoneAt (w : World) (B tb : Nat) (mv sv : Value) (l : List Nat) (fuel : Nat) : Prop where
  box : ∃ ca cc, w.heap[tb]? = some (.cells #[mv, sv, .slice ca 0 cc, .int .i64 (fuel : Int), .int .i64 0] 81 (0, 0))
  stk : w.ownsRow B 22 1 sv l.length (natsV l)
/-- what is left of it -/
def Fin (w : World) (B tb : Nat) (K : Mk) (gs : List Nat) (E : Tc) (x : Tx) (l : List Nat) (fuel : Nat) (w' : World) : Prop := (∃ sv, DoneAt w' B tb E.mv sv l fuel) ∧ MAt w' B K gs ∧ Keeps (fun j => x.foot tb E j ∨ K.foot j) w w'
theorem SUpd.fin {w w1 w2 : World} {B tb : Nat} {K : Mk} {gs gs' : List Nat} {E : Tc} {x : Tx} {t : Th} {l : List Nat} {fuel : Nat} (u : SUpd w B tb K gs E x t w1) (k : ∀ x1, SAt w1 B tb K gs E x1 t → Fin w1 B tb K gs' E x1 l fuel w2) : Fin w B tb K gs' E x l fuel w2 := by
  obtain ⟨x1, h1, h2, h3⟩ := u
  obtain ⟨k1, k2, k3⟩ := k x1 h1
  refine ⟨k1, k2, h3.trans k3 (fun j hj => ?_)⟩
  rcases hj with hj | hj
  · exact (h2 j hj).imp .inl id
  · exact .inl (.inr hj)
set_option maxRecDepth 100000 in
theorem cut_calls (a : Option Addr) (n cap m : Nat) (h : m ≤ cap) (w : World) : (Instr.slice 79 (.slice a n cap) none (some (.int .i64 m)) none).run Tryz.prog w = .ok (.slice a m cap) w := by
  rw [run_slice_h w 79 a n cap Tryz.underlying79 .i64 (m : Int) (by omega) (by omega)]
  have hs : (sizeOf (Tryz.prog.elem 79)).run Tryz.prog w = .ok 7 w := by kernel_rfl
  rw [hs]
  cases a <;> simp [Result.andThen, sliced, Addr.add]
theorem TAt.calls_cut {w : World} {B tb : Nat} {E : Tc} {x : Tx} {t : Th} (h : TAt w B tb E x t) (he : t.e = 0) : (∃ sv, DoneAt (w.setCell ⟨tb, 2, none⟩ (.slice (some ⟨E.g, 0, none⟩) 0 E.gc)) B tb E.mv sv t.stack t.fuel) ∧ Keeps (x.foot tb E) w (w.setCell ⟨tb, 2, none⟩ (.slice (some ⟨E.g, 0, none⟩) 0 E.gc)) := by
  obtain ⟨r0, r1, r2, r3⟩ := h.rest
  refine ⟨⟨x.sv, ⟨⟨some ⟨E.g, 0, none⟩, E.gc, ?_⟩, ownsRow_of h.stk (fun j hj => Below.heap_setCell _ _ _ _ (r1 j hj).1)⟩⟩, Keeps.setCell (F := x.foot tb E) _ _ _ (.inl rfl)⟩
  rw [box_set h.box]
  unfold boxT
  rw [he]
  rfl
set_option maxRecDepth 100000 in
set_option maxHeartbeats 4000000 in
theorem returns_any (w : World) (B tb : Nat) (K : Mk) (gs : List Nat) (E : Tc) (x : Tx) (t : Th) (h : SAt w B tb K gs E x t) (hM : 0 < E.many) (hL : E.height + E.many ≤ t.stack.length) (hS : t.stack.length < 3000000000000) (he : t.e = 0) :
    Calls Tryz.prog 77 #[.pointer (some ⟨tb, 0, none⟩)] w fun e w' => e = .returned (.tuple #[]) ∧ Fin w B tb K gs E x (unwindL t.stack E.height E.many) t.fuel w' := by
  have c2 := h.th.cells.2.2.1
  obtain ⟨_, _, _, _, g4, g5, _, _⟩ := h.th.frame
  have HUN := Lib.hid (show ∀ W : World, Below w.heap.size w W → Calls Tryz.prog 113 #[.pointer (some ⟨tb, 0, none⟩), .int .i64 (E.height : Int), .int .i64 (E.many : Int)] W fun e w' => e = .returned (.tuple #[]) ∧ SUpd w B tb K gs E x { t with stack := unwindL t.stack E.height E.many } w' from
    fun W hb => (unwind_any W B tb E x t E.height E.many (h.th.later hb) hM hL hS).mono fun e w' hh => ⟨hh.1, SUpd.of h (Upd.after hb hh.2)⟩)
  have hbl := h.th.lt
  have hgl := h.th.gown.2
  have hcc := cut_calls (some ⟨E.g, 0, none⟩) 1 E.gc 0 (by omega)
  have hi0 : (0 : Int) ≤ 0 := by omega
  have HE := Lib.hid he
  clear h hM hL hS he
  go_enter Tryz.func77, Tryz.ntmps77
  go_wp2_with fail
  go_still_tail 17, (by kernel_rfl)
  change wpList _ _ _ _ _ w.drew
  have HU2 := Lib.hid (HUN.out w.drew (Below.refl _ _).drew)
  clear HUN
  obtain ⟨wd, hwd⟩ : ∃ wd, w.drew = wd := ⟨_, rfl⟩
  rw [hwd] at HU2 ⊢
  have c2 : wd.cell? ⟨tb, 2, none⟩ = some (.slice (some ⟨E.g, 0, none⟩) 1 E.gc) := by rw [← hwd]; exact c2
  have g4 : wd.cell? ⟨E.g, 4, none⟩ = some (.int .i64 (E.height : Int)) := by rw [← hwd]; exact g4
  have g5 : wd.cell? ⟨E.g, 5, none⟩ = some (.int .i64 (E.many : Int)) := by rw [← hwd]; exact g5
  clear hwd
  go_wp2_with fail
  refine HU2.out.mono ?_
  rintro e w1 ⟨rfl, u1⟩
  have U1 := Lib.hid u1
  obtain ⟨x1, h1, _, _⟩ := u1
  have c2' := h1.th.cells.2.2.1
  have fz2 := h1.th.frozen 2
  have hbl1 := h1.th.lt
  clear h1 c2 g4 g5 HU2
  go_wp2_with fail
  go_end0
  refine ⟨rfl, SUpd.fin U1.out (fun x1 h1 => ?_)⟩
  obtain ⟨q1, q2⟩ := h1.th.calls_cut HE.out
  exact ⟨q1, h1.ma.under (q2.below (fun j hj => (h1.th.foot_lt j hj).1) h1.ma.wB), ⟨q2.os, q2.tape, q2.output, q2.size, fun k hk hf => q2.block k hk (fun hq => hf (.inl hq))⟩⟩
end Go.Proofs.YtmbgemcddjailaaGreatDoor.Run
