/-
  What a program's shut and opens do. No condition beyond what each theorem names.
-/
import Derived.Test.YtofepnojhghnnaaGreatDoorPgC
import Derived.RegionTactic
import Derived.BigRegion
namespace Go.Proofs.YtofepnojhghnnaaGreatDoor.Pg
open Go.RowKit Go.Maps Go.Proofs.YtofepnojhghnnaaGreatDoor.Op Go.Proofs.YtofepnojhghnnaaGreatDoor.Mod
set_option linter.unusedVariables false
theorem opens_form {w : World} {B bb : Nat} {x : Px} {s : St} (h : PAt w B bb x s) : ∃ a cap, x.ov = .slice a s.opens.length cap ∧ s.opens.length ≤ cap := by
  rcases h.ope.2 with ⟨h1, h2⟩ | ⟨g, cap, cur, h1, _, _, hc, _⟩
  · exact ⟨none, 0, by rw [h1, h2], by omega⟩
  · exact ⟨_, cap, h1, hc⟩
theorem opens_cut {w : World} {B bb : Nat} {x : Px} {s : St} (h : PAt w B bb x s) {a : Option Addr} {cap m : Nat} (hx : x.ov = .slice a s.opens.length cap) (hm : m ≤ s.opens.length) : Upd w B bb x { s with opens := s.opens.take m } (w.setCell ⟨bb, 2, none⟩ (.slice a m cap)) := by
  have hs := h.ope
  rw [hx] at hs
  rcases hs.2 with ⟨h1, h2⟩ | ⟨g, cap', cur, h1, _⟩
  · simp only [Value.slice.injEq] at h1
    obtain ⟨rfl, hl, rfl⟩ := h1
    have hm0 : m = 0 := by omega
    subst hm0
    have hw : w.ownsRow B 65 3 (.slice none 0 0) (s.opens.take 0).length (openV (s.opens.take 0)) := World.ownsRow_nil _ _ _ _
    exact h.setOpe (World.grownBy.refl w _) hw (fun k hk => by simp [Value.ownBlock] at hk)
  · simp only [Value.slice.injEq] at h1
    obtain ⟨rfl, _, rfl⟩ := h1
    have ht := ownsRow_take hs (m := m) hm
    have hl : (s.opens.take m).length = m := by rw [List.length_take]; omega
    have e : openV (s.opens.take m) = (openV s.opens).take (m * 3) := by
      have e2 : openV s.opens = openV (s.opens.take m) ++ openV (s.opens.drop m) := by unfold openV; rw [← List.flatMap_append, List.take_append_drop]
      rw [e2, List.take_left' (by rw [openV_length, hl])]
    have hw : w.ownsRow B 65 3 (.slice (some ⟨g, 0, none⟩) m cap) (s.opens.take m).length (openV (s.opens.take m)) := by rw [e, hl]; exact ht
    exact h.setOpe (World.grownBy.refl w _) hw (fun k hk => .inl (by rw [hx]; exact hk))
set_option maxRecDepth 100000 in
theorem cut_open (a : Option Addr) (n cap m : Nat) (h : m ≤ cap) (w : World) : (Instr.slice 57 (.slice a n cap) none (some (.int .i64 m)) none).run Tryz.prog w = .ok (.slice a m cap) w := by
  rw [run_slice_h w 57 a n cap Tryz.underlying57 .i64 (m : Int) (by omega) (by omega)]
  have hs : (sizeOf (Tryz.prog.elem 57)).run Tryz.prog w = .ok 3 w := by kernel_rfl
  rw [hs]
  cases a <;> simp [Result.andThen, sliced, Addr.add]
set_option maxRecDepth 100000 in
set_option maxHeartbeats 4000000 in
theorem shut_any (b : Opn) (w : World) (B bb : Nat) (x : Px) (s : St) (n : Nat) (hI : Inv s n) (hn : n ≤ 800000) (h : PAt w B bb x s) (hB : B ≤ w.heap.size) (hb : s.opens.getLast? = some b) :
    Calls Tryz.prog 15 #[.pointer (some ⟨bb, 0, none⟩)] w fun e w' => e = .returned (.tuple #[]) ∧ Upd w B bb x (shutP s b) w' := by
  obtain ⟨o1, o2⟩ := hI.os b (last_mem hb)
  obtain ⟨l0, hl0⟩ : ∃ l0, s.opens = l0 ++ [b] := by
    rcases List.eq_nil_or_concat s.opens with he | ⟨l0, z, he⟩
    · rw [he] at hb; cases hb
    · rw [List.concat_eq_append] at he
      rw [he] at hb
      simp at hb
      subst hb
      exact ⟨l0, he⟩
  have HTOP := Lib.hid (top_of hb).symm
  obtain ⟨g, cap, hv, hcap, hgl, d0, d1, d2, _⟩ := h.lastOpen hl0
  obtain ⟨q1, q2, q3⟩ := hI.bounds (by omega)
  have hll : l0.length < 1000000 := by rw [hl0] at q3; simp at q3; omega
  have HL := Lib.hid (hI.level o2 (top_of hb).symm)
  have HLS := Lib.hid (level_size hI o2 (top_of hb).symm)
  obtain ⟨cv, sv, ov⟩ := x
  have hv2 : ov = .slice (some ⟨g, 0, none⟩) (l0.length + 1) cap := hv
  subst hv2
  obtain ⟨_, _, c2⟩ := h.cells
  have hbl := h.lt
  have H := Lib.hid h
  have HI := Lib.hid hI
  have HOL := Lib.hid hl0
  have HLO := Lib.hid (level_opens s b)
  have hwl : IntKind.i64.wrap (l0.length : Int) = (l0.length : Int) := IntWalk.i64_in _ (by omega)
  have hi0 : (0 : Int) ≤ (l0.length : Int) := by omega
  have hi1 : (l0.length : Int) < (l0.length : Int) + 1 := by omega
  have hres : b.res < 256 := by omega
  clear h hI hl0 hv hb q1 q2 q3
  go_enter Tryz.func15, Tryz.ntmps15
  go_wp2_with fail
  go_region
  all_goals
    go_wp2_with fail
    obtain ⟨W1, hW1⟩ : ∃ W1, (w.alloc (.cells #[.int .i64 b.op, .int .u8 (b.res : Int), .int .i64 (b.height : Int)] 65)).drew = W1 := ⟨_, rfl⟩
    have B1 : Below w.heap.size w W1 := by rw [← hW1]; exact ((Below.refl _ _).alloc (Nat.le_refl _) _).drew
    have z1 : W1.heap.size = w.heap.size + 1 := by rw [← hW1]; show (w.alloc _).heap.size = _; simp
    have y1 : W1.cell? ⟨w.heap.size, 1, none⟩ = some (.int .u8 (b.res : Int)) := by rw [← hW1]; show (w.alloc _).cell? _ = _; simp
    rw [hW1]
    have HB1 := Lib.hid B1
    have Y1 := Lib.hid y1
    clear hW1 c2 d0 d1 d2
    refine (level_any b W1 B bb _ s n HI.out hn (H.out.later HB1.out) (by omega) o2 HTOP.out).mono ?_
    rintro e2 w2 ⟨rfl, u2⟩
    have HU2 := Lib.hid u2
    obtain ⟨x2, hA2, hf2, hk2⟩ := u2
    have HA2 := Lib.hid hA2
    have HF2 := Lib.hid hf2
    have HK2 := Lib.hid hk2
    clear hA2 hf2 hk2 y1 B1
    go_wp2_with fail
    refine (put_any 11 0 0 w2 B bb x2 _ HA2.out (by have := HK2.out.size; omega) (by have := HL.out.size; omega)).mono ?_
    rintro e3 w3 ⟨rfl, u3⟩
    have HU3 := Lib.hid (Upd.trans HF2.out HK2.out u3)
    clear u3
    obtain ⟨x3, hA3, hf3, hk3⟩ := HU3.out
    obtain ⟨a3, cap3, hx3, hcap3⟩ := opens_form hA3
    have hol3 : (putP (levelP s b) 11 0 0).opens.length = l0.length + 1 := by show (levelP s b).opens.length = _; rw [HLO.out, HOL.out]; simp
    have hcut := opens_cut hA3 (m := l0.length) hx3 (by rw [hol3]; omega)
    have hop : (putP (levelP s b) 11 0 0).opens.take l0.length = (levelP s b).opens.dropLast := by
      show (levelP s b).opens.take l0.length = _
      rw [HLO.out, HOL.out]
      simp
    rw [hop] at hcut
    have HCUT := Lib.hid (Upd.trans hf3 hk3 hcut)
    rw [hol3] at hx3 hcap3
    obtain ⟨cv3, sv3, ov3⟩ := x3
    have hx4 : ov3 = .slice a3 (l0.length + 1) cap3 := hx3
    subst hx4
    obtain ⟨_, _, k2⟩ := hA3.cells
    have fz3 := hA3.frozen 2
    have hsl := cut_open a3 (l0.length + 1) cap3 l0.length (by omega)
    have Y3 := Lib.hid ((show w3.cell? ⟨w.heap.size, 1, none⟩ = some (.int .u8 (b.res : Int)) from by
      obtain ⟨_, _, _, h3⟩ := HU3.out
      exact h3.cell Y1.out (fun hf => by have := (H.out.foot_lt _ hf).2; simp at this)))
    have hbl3 := hA3.lt
    clear hA3 hf3 hk3 hx3 hcut hop hol3
    go_wp2_with fail
    go_still_tail 14, (by kernel_rfl)
    change wpList _ _ _ _ _ w3.drew
    have k2d : w3.drew.cell? ⟨bb, 2, none⟩ = some (.slice a3 (l0.length + 1) cap3) := k2
    have fzd : w3.drew.frozen? ⟨bb, 2, none⟩ = false := fz3
    have hnb : bb ≠ w.heap.size := by omega
    go_upto_region 4 with fail
    obtain ⟨W4, hW4⟩ : ∃ W4, (w3.setCell ⟨bb, 2, none⟩ (.slice a3 l0.length cap3)).drew = W4 := ⟨_, rfl⟩
    have y4 : W4.cell? ⟨w.heap.size, 1, none⟩ = some (.int .u8 (b.res : Int)) := by
      rw [← hW4]
      exact (World.cell?_setCell_other w3 _ _ _ (fun e => by first | (simp at e; done) | (simp at e; omega))).trans Y3.out
    rw [hW4]
    have HU4 := Lib.hid (show Upd W1 B bb _ _ W4 by rw [← hW4]; exact HCUT.out.then_ (Below.refl _ _).drew)
    clear hW4 k2 k2d fz3 fzd
    by_cases hr : b.res = 64
    · have hr2 : ((b.res : Int) != 64) = false := by rw [hr]; rfl
      go_wp2_with fail
      go_end0
      refine ⟨rfl, ?_⟩
      unfold shutP
      dsimp only
      rw [if_pos hr]
      exact Upd.after HB1.out HU4.out
    · have hr2 : ((b.res : Int) != 64) = true := bne_iff_ne.2 (by omega)
      obtain ⟨x4, hA4, hf4, hk4⟩ := HU4.out
      have hL2 : (levelP s b).stack.length < 1000000 := by have := HL.out.size; omega
      have HPU := Lib.hid (push_any b.res W4 B bb x4 _ hA4 (by have := hk4.size; omega) hL2)
      have HF4 := Lib.hid hf4
      have HK4 := Lib.hid hk4
      clear hA4 hf4 hk4 hL2
      go_wp2_with fail
      refine HPU.out.mono ?_
      rintro e5 w5 ⟨rfl, u5⟩
      have HU5 := Lib.hid (Upd.after HB1.out (Upd.trans HF4.out HK4.out u5))
      clear u5
      go_wp2_with fail
      go_end0
      refine ⟨rfl, ?_⟩
      unfold shutP
      dsimp only
      rw [if_neg hr]
      exact HU5.out
set_option maxRecDepth 100000 in
set_option maxHeartbeats 4000000 in
theorem opens_any (op : Int) (res : Nat) (w : World) (B bb : Nat) (x : Px) (s : St) (n : Nat) (hI : Inv s n) (hn : n ≤ 800000) (h : PAt w B bb x s) (hB : B ≤ w.heap.size) (hr : res < 256) :
    Calls Tryz.prog 64 #[.pointer (some ⟨bb, 0, none⟩), .int .i64 op, .int .u8 (res : Int)] w fun e w' => e = .returned (.tuple #[]) ∧ Upd w B bb x (opensP s op res) w' := by
  obtain ⟨q1, q2, q3⟩ := hI.bounds (by omega)
  obtain ⟨i0, hi, hz0, hz1, hz2⟩ := info_of info_opn
  have H := Lib.hid h
  clear h hI
  go_enter Tryz.func64, Tryz.ntmps64
  go_wp2_with fail
  refine (put_any op (res : Int) 0 w B bb x s H.out hB q1).mono ?_
  rintro e1 w1 ⟨rfl, u1⟩
  obtain ⟨⟨cv, sv, ov⟩, hA, hf, hk⟩ := u1
  have HA := Lib.hid hA
  have HF := Lib.hid hf
  have HK := Lib.hid hk
  obtain ⟨a, cap, hx, hcap, _⟩ := hA.stackForm
  have hx2 : sv = .slice a s.stack.length cap := hx
  subst hx2
  obtain ⟨_, c1, c2⟩ := hA.cells
  have hbl := hA.lt
  have fz := hA.frozen 2
  have C2 := Lib.hid c2
  have FZ := Lib.hid fz
  have HC := Lib.hid (show ∀ o : Obj, (w1.alloc o).ownsRow B 65 3 ov s.opens.length (openV s.opens) from fun o => hA.ope.alloc o)
  have HL := Lib.hid (show s.opens.length + 1 ≤ maxLen by unfold maxLen; omega)
  have HY := Lib.hid (show (s.opens.length + 1) * 24 ≤ 140737488355328 by omega)
  have HZ := Lib.hid (show B ≤ (w1.alloc (.cells (Opn.cells ⟨op, res, s.stack.length⟩).toArray 65)).heap.size by have := hk.size; simp; omega)
  have HN := Lib.hid (news_at w1 (Opn.cells ⟨op, res, s.stack.length⟩).toArray 65 (Opn.cells ⟨op, res, s.stack.length⟩) rfl)
  have HNE := Lib.hid (show ov.ownBlock ≠ some bb from fun e => (hA.rest.2.2 bb e).1 rfl)
  clear hA hf hk hx hcap
  go_wp2_with fail
  go_region_law ((refine step_append_own2 _ (by rfl) _ _ _ (by rfl) B 65 i0 zeroOpn 3 24 Tryz.underlying57 hi hz0 hz1 hz2 rfl (by decide) ov s.opens.length (openV s.opens) (by rfl) (HC.out _) ⟨w1.heap.size, 0, none⟩ 1 1 (Opn.cells ⟨op, res, s.stack.length⟩) (by rfl) rfl HN.out (one_opn _) (by decide) HL.out HY.out HZ.out ?_; intro g' cap' w2 hown hgrow hnb; have cz : w2.cell? ⟨bb, 2, none⟩ = some ov := hgrow.cell (a := ⟨bb, 2, none⟩) ((World.cell?_alloc_past _ _ _ hbl).trans C2.out) (Ne.symm HNE.out); have fz1 : w2.frozen? ⟨bb, 2, none⟩ = false := (World.frozen?_of_block (a := ⟨bb, 2, none⟩) (hgrow.block bb (by simp; omega) (Ne.symm HNE.out))).trans ((World.frozen?_alloc_past _ _ _ hbl).trans FZ.out)))
  all_goals
    have hset := HA.out.setOpe (l := s.opens ++ [⟨op, res, s.stack.length⟩]) (drew_alloc hgrow) (by rw [openV_snoc, List.length_append]; exact hown) (newBlock_mono hnb (by show w1.heap.size ≤ (w1.alloc _).heap.size; simp))
    have HU := Lib.hid (Upd.trans HF.out HK.out hset)
    clear hown hgrow hnb hset
    go_wp2_with fail
    go_end0
    exact ⟨rfl, HU.out⟩
end Go.Proofs.YtofepnojhghnnaaGreatDoor.Pg
