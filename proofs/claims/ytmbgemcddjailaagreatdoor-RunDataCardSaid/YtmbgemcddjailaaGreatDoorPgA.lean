/-
  What the small methods of a program do: put, push, take, has. No condition beyond what each theorem names.
-/
import Derived.Test.YtmbgemcddjailaaGreatDoorPgDefs
import Derived.Deep.QuietTactic
import Derived.BigQuiet
namespace Go.Proofs.YtmbgemcddjailaaGreatDoor.Pg
open Go.RowKit Go.Maps Go.Proofs.YtmbgemcddjailaaGreatDoor.Op Go.Proofs.YtmbgemcddjailaaGreatDoor.Mod
set_option linter.unusedVariables false
theorem below_drewN {B : Nat} {a w : World} (h : Below B a w) (n : Nat) : Below B a (w.drewN n) := ⟨h.os, h.tape, h.output, h.size, h.block⟩
def zeroOpn : Value := .agg #[.int .i64 0, .int .u8 0, .int .i64 0]
theorem info_opn : (Tryz.prog.info? 95).map (fun i => (i.zero, i.size, i.bytes)) = some (some zeroOpn, 3, 24) := by kernel_rfl
set_option maxRecDepth 100000 in
set_option maxHeartbeats 1000000 in
theorem put_any (op a b : Int) (w : World) (B bb : Nat) (x : Px) (s : St) (h : PAt w B bb x s) (hB : B ≤ w.heap.size) (hlen : s.code.length < 1000000) :
    Calls Tryz.prog 27 #[.pointer (some ⟨bb, 0, none⟩), .int .i64 op, .int .i64 a, .int .i64 b] w fun e w' => e = .returned (.tuple #[]) ∧ Upd w B bb x (putP s op a b) w' := by
  obtain ⟨i0, hi, hz0, hz1, hz2⟩ := info_of info_ins
  obtain ⟨cv, sv, ov⟩ := x
  obtain ⟨c0, _, _⟩ := h.cells
  have hbl := h.lt
  have H := Lib.hid h
  have HC4 := Lib.hid (show s.code.length + 1 ≤ maxLen by unfold maxLen; omega)
  have HC5 := Lib.hid (show (s.code.length + 1) * 48 ≤ 140737488355328 by omega)
  have HC6 := Lib.hid (show B ≤ (w.alloc (.cells (Ins.cells ⟨op, a, b⟩).toArray 29)).heap.size by simp; omega)
  have HN := Lib.hid (news_at w (Ins.cells ⟨op, a, b⟩).toArray 29 (Ins.cells ⟨op, a, b⟩) rfl)
  have C0 := Lib.hid c0
  clear h
  go_enter Tryz.func27, Tryz.ntmps27
  go_wp2_with (at_builtin; refine wpList_append_own2 _ rfl _ _ 30 rfl B 29 i0 zeroIns 4 48 Tryz.underlying30 hi hz0 hz1 hz2 rfl (by decide) _ _ _ rfl (H.out.cod.alloc _) ⟨w.heap.size, 0, none⟩ 1 1 (Ins.cells ⟨op, a, b⟩) rfl rfl HN.out (one_ins _) (by decide) HC4.out HC5.out HC6.out ?_)
  intro v' w1 hown hgrow hnb
  obtain ⟨g', cap', rfl⟩ := Go.Joins.ownsRow_form hown (by omega)
  have hne : cv.ownBlock ≠ some bb := fun e => (H.out.rest.1 bb e).1 rfl
  have hbx : w1.heap[bb]? = w.heap[bb]? := (grown_alloc hgrow).block bb H.out.lt (Ne.symm hne)
  have fz1 : w1.frozen? ⟨bb, 0, none⟩ = false := (World.frozen?_of_block (a := ⟨bb, 0, none⟩) hbx).trans (H.out.frozen 0)
  have cz : w1.cell? ⟨bb, 0, none⟩ = some cv := (World.cell?_of_block (a := ⟨bb, 0, none⟩) hbx).trans C0.out
  have HU := Lib.hid (H.out.setCod (l := s.code ++ [⟨op, a, b⟩]) (grown_alloc hgrow) (by rw [codeV_snoc, List.length_append]; exact hown) (newBlock_mono hnb (by simp)))
  clear hown hgrow hnb hne hbx c0
  go_wp2_with fail
  go_end0
  exact ⟨rfl, HU.out⟩
set_option maxRecDepth 100000 in
set_option maxHeartbeats 1000000 in
theorem push_any (k : Nat) (w : World) (B bb : Nat) (x : Px) (s : St) (h : PAt w B bb x s) (hB : B ≤ w.heap.size) (hlen : s.stack.length < 1000000) :
    Calls Tryz.prog 49 #[.pointer (some ⟨bb, 0, none⟩), .int .u8 (k : Int)] w fun e w' => e = .returned (.tuple #[]) ∧ Upd w B bb x (pushP s k) w' := by
  obtain ⟨i0, hi, hz0, hz1, hz2⟩ := info_of info_u8
  obtain ⟨cv, sv, ov⟩ := x
  obtain ⟨_, c1, _⟩ := h.cells
  have hbl := h.lt
  have H := Lib.hid h
  have HC4 := Lib.hid (show s.stack.length + 1 ≤ maxLen by unfold maxLen; omega)
  have HC5 := Lib.hid (show (s.stack.length + 1) * 1 ≤ 140737488355328 by omega)
  have HC6 := Lib.hid (show B ≤ (w.alloc (.cells #[.int .u8 (k : Int)] 5)).heap.size by simp; omega)
  have HN := Lib.hid (news_at w #[.int .u8 (k : Int)] 5 [.int .u8 (k : Int)] rfl)
  have C1 := Lib.hid c1
  clear h
  go_enter Tryz.func49, Tryz.ntmps49
  go_wp2_with (at_builtin; refine wpList_append_own2 _ rfl _ _ 83 rfl B 5 i0 (.int .u8 0) 1 1 Tryz.underlying83 hi hz0 hz1 hz2 rfl (by decide) _ _ _ rfl (H.out.stk.alloc _) ⟨w.heap.size, 0, none⟩ 1 1 [.int .u8 (k : Int)] rfl rfl HN.out (by intro u hu; rw [List.mem_singleton.1 hu]; rfl) (by decide) HC4.out HC5.out HC6.out ?_)
  intro v' w1 hown hgrow hnb
  obtain ⟨g', cap', rfl⟩ := Go.Joins.ownsRow_form hown (by omega)
  have hne : sv.ownBlock ≠ some bb := fun e => (H.out.rest.2.1 bb e).1 rfl
  have hbx : w1.heap[bb]? = w.heap[bb]? := (grown_alloc hgrow).block bb H.out.lt (Ne.symm hne)
  have fz1 : w1.frozen? ⟨bb, 1, none⟩ = false := (World.frozen?_of_block (a := ⟨bb, 1, none⟩) hbx).trans (H.out.frozen 1)
  have cz : w1.cell? ⟨bb, 1, none⟩ = some sv := (World.cell?_of_block (a := ⟨bb, 1, none⟩) hbx).trans C1.out
  have HU := Lib.hid (H.out.setStk (l := s.stack ++ [k]) (grown_alloc hgrow) (by rw [stackV_snoc, List.length_append]; exact hown) (newBlock_mono hnb (by simp)))
  clear hown hgrow hnb hne hbx c1
  go_wp2_with fail
  go_end0
  exact ⟨rfl, HU.out⟩
set_option maxRecDepth 100000 in
theorem cut_stack (a : Option Addr) (n cap m : Nat) (h : m ≤ cap) (w : World) : (Instr.slice 83 (.slice a n cap) none (some (.int .i64 m)) none).run Tryz.prog w = .ok (.slice a m cap) w := by
  rw [run_slice_h w 83 a n cap Tryz.underlying83 .i64 (m : Int) (by omega) (by omega)]
  have hs : (sizeOf (Tryz.prog.elem 83)).run Tryz.prog w = .ok 1 w := by kernel_rfl
  rw [hs]
  cases a <;> simp [Result.andThen, sliced, Addr.add]
theorem stack_cut {w : World} {B bb : Nat} {x : Px} {s : St} (h : PAt w B bb x s) {a : Option Addr} {cap m : Nat} (hx : x.sv = .slice a s.stack.length cap) (hm : m ≤ s.stack.length) : Upd w B bb x { s with stack := s.stack.take m } (w.setCell ⟨bb, 1, none⟩ (.slice a m cap)) := by
  have hs := h.stk
  rw [hx] at hs
  rcases hs.2 with ⟨h1, h2⟩ | ⟨g, cap', cur, h1, _⟩
  · simp only [Value.slice.injEq] at h1
    obtain ⟨rfl, hl, rfl⟩ := h1
    have hm0 : m = 0 := by omega
    subst hm0
    have hw : w.ownsRow B 5 1 (.slice none 0 0) (s.stack.take 0).length (stackV (s.stack.take 0)) := World.ownsRow_nil _ _ _ _
    exact h.setStk (World.grownBy.refl w _) hw (fun k hk => by simp [Value.ownBlock] at hk)
  · simp only [Value.slice.injEq] at h1
    obtain ⟨rfl, _, rfl⟩ := h1
    have ht := ownsRow_take hs (m := m) hm
    have e : stackV (s.stack.take m) = (stackV s.stack).take (m * 1) := by simp [stackV, List.map_take]
    have hl : (s.stack.take m).length = m := by rw [List.length_take]; omega
    have hw : w.ownsRow B 5 1 (.slice (some ⟨g, 0, none⟩) m cap) (s.stack.take m).length (stackV (s.stack.take m)) := by rw [e, hl]; exact ht
    exact h.setStk (World.grownBy.refl w _) hw (fun k hk => .inl (by rw [hx]; exact hk))
theorem dropLast_take' (l : List Nat) : l.dropLast = l.take (l.length - 1) := List.dropLast_eq_take ..
set_option maxRecDepth 100000 in
set_option maxHeartbeats 2000000 in
theorem take_any (w : World) (B bb : Nat) (x : Px) (s : St) (h : PAt w B bb x s) (hlen : s.stack.length < 1000000) (h0 : 0 < s.stack.length) :
    Calls Tryz.prog 51 #[.pointer (some ⟨bb, 0, none⟩)] w fun e w' => e = .returned (.tuple #[]) ∧ Upd w B bb x (takeP s) w' := by
  obtain ⟨a, cap, hx, hcap, hform⟩ := h.stackForm
  obtain ⟨g, rfl, _⟩ := hform h0
  obtain ⟨cv, sv, ov⟩ := x
  have hx2 : sv = .slice (some ⟨g, 0, none⟩) s.stack.length cap := hx
  subst hx2
  obtain ⟨_, c1, _⟩ := h.cells
  have fz := h.frozen 1
  have HU := Lib.hid (stack_cut h (m := s.stack.length - 1) rfl (by omega))
  obtain ⟨L, hL⟩ : ∃ L, s.stack.length = L + 1 := ⟨s.stack.length - 1, by omega⟩
  have hd : ({ s with stack := s.stack.take (s.stack.length - 1) } : St) = takeP s := by unfold takeP; rw [dropLast_take']
  rw [hd] at HU
  rw [hL] at c1 hcap hlen HU
  rw [Nat.add_sub_cancel] at HU
  have hwl : IntKind.i64.wrap (L : Int) = (L : Int) := IntWalk.i64_in _ (by omega)
  have hsl := cut_stack (some ⟨g, 0, none⟩) (L + 1) cap L (by omega)
  clear h hx hform hd h0 hL
  go_enter Tryz.func51, Tryz.ntmps51
  go_still_tail 14, (by kernel_rfl)
  change wpList _ _ _ _ _ w.drew
  have c1d : w.drew.cell? ⟨bb, 1, none⟩ = some (.slice (some ⟨g, 0, none⟩) (L + 1) cap) := c1
  have fzd : w.drew.frozen? ⟨bb, 1, none⟩ = false := fz
  go_wp2_with fail
  go_end0
  exact ⟨rfl, HU.out.then_ (Below.refl _ _).drew⟩
set_option maxRecDepth 100000 in
set_option maxHeartbeats 1000000 in
theorem has_any (w : World) (B bb : Nat) (x : Px) (s : St) (h : PAt w B bb x s) (hlen : s.stack.length < 1000000) (hlo : s.opens.length < 1000000) (ht : topH s ≤ s.stack.length) :
    Calls Tryz.prog 54 #[.pointer (some ⟨bb, 0, none⟩)] w fun e w' => e = .returned (.int .i64 (hasP s)) ∧ Below w.heap.size w w' := by
  obtain ⟨a, cap, hx, hcap, _⟩ := h.stackForm
  have hq : ((hasP s : Nat) : Int) = (s.stack.length : Int) - (topH s : Int) := by unfold hasP; omega
  rcases List.eq_nil_or_concat s.opens with he | ⟨l0, b, he⟩
  · have hov := h.ope
    rw [he] at hov
    obtain ⟨va, vc, hv⟩ : ∃ a c, x.ov = .slice a 0 c := by
      rcases hov.2 with ⟨h1, h2⟩ | ⟨gg, cc, cur, h1, _⟩
      · exact ⟨none, 0, h1⟩
      · exact ⟨_, cc, h1⟩
    have ht0 : topH s = 0 := by unfold topH; rw [he]; rfl
    obtain ⟨cv, sv, ov⟩ := x
    have hx2 : sv = .slice a s.stack.length cap := hx
    have hv2 : ov = .slice va 0 vc := hv
    subst hx2 hv2
    obtain ⟨_, c1, c2⟩ := h.cells
    rw [ht0] at hq
    have HQ := Lib.hid hq
    clear h hx hov hv ht0 hq he ht
    go_enter Tryz.func54, Tryz.ntmps54
    go_wp2_with fail
    go_ret
    exact ⟨by rw [HQ.out]; simp, Below.refl _ _⟩
  · rw [List.concat_eq_append] at he
    obtain ⟨g, ocap, hv, hoc, hgl, d0, d1, d2, _⟩ := h.lastOpen he
    have htp : topH s = b.height := top_of (by rw [he]; simp)
    have hll : l0.length < 1000000 := by rw [he] at hlo; simp at hlo; omega
    obtain ⟨cv, sv, ov⟩ := x
    have hx2 : sv = .slice a s.stack.length cap := hx
    have hv2 : ov = .slice (some ⟨g, 0, none⟩) (l0.length + 1) ocap := hv
    subst hx2 hv2
    obtain ⟨_, c1, c2⟩ := h.cells
    rw [htp] at hq ht
    have HQ := Lib.hid hq
    have hwl : IntKind.i64.wrap (l0.length : Int) = (l0.length : Int) := IntWalk.i64_in _ (by omega)
    have hwn : IntKind.i64.wrap ((s.stack.length : Int) - (b.height : Int)) = (s.stack.length : Int) - (b.height : Int) := IntWalk.i64_in _ (by omega)
    have hi0 : (0 : Int) ≤ (l0.length : Int) := by omega
    have hi1 : (l0.length : Int) < (l0.length : Int) + 1 := by omega
    have hg1 : decide (0 < (l0.length : Int) + 1) = true := decide_eq_true (by omega)
    clear h hx hv hq he htp hlo hoc hcap
    go_enter Tryz.func54, Tryz.ntmps54
    go_wp2_with fail
    go_quiet (fail)
    go_wp2_with fail
    go_ret
    exact ⟨by rw [HQ.out]; rfl, below_drewN (Below.refl _ _) _⟩
end Go.Proofs.YtmbgemcddjailaaGreatDoor.Pg
