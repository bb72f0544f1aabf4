/-
  What a step of a program does: steps 11 to 15. No condition beyond what each theorem names.
-/
import Derived.Test.YtofepnojhghnnaaGreatDoorPgF
import Derived.Deep.RegionWith
namespace Go.Proofs.YtofepnojhghnnaaGreatDoor.Pg
open Go.RowKit Go.Maps Go.Proofs.YtofepnojhghnnaaGreatDoor.Op Go.Proofs.YtofepnojhghnnaaGreatDoor.Mod
set_option linter.unusedVariables false

/-- a cell of the row of blocks, stored in place -/
theorem PAt.inOpe {w : World} {B bb : Nat} {x : Px} {s : St} (h : PAt w B bb x s) {g : Nat} (hg : x.ov.ownBlock = some g) {l : List Opn} {j : Nat} {u : Value} (hl : l.length = s.opens.length) (hset : openV l = (openV s.opens).set j u) : Upd w B bb x { s with opens := l } (w.setCell ⟨g, j, none⟩ u) := by
  obtain ⟨r1, r2, r3⟩ := h.rest
  obtain ⟨cap, hform⟩ : ∃ cap, x.ov = .slice (some ⟨g, 0, none⟩) s.opens.length cap := by
    rcases h.ope.2 with ⟨h1, h2⟩ | ⟨gg, cap, cur, h1, _⟩
    · rw [h1] at hg; cases hg
    · rw [h1] at hg
      simp [Value.ownBlock] at hg
      subst hg
      exact ⟨cap, h1⟩
  have hope := h.ope
  rw [hform] at hope
  have h1 := (hope.stored j u).1
  have hold : ∀ q, q ≠ g → (w.setCell ⟨g, j, none⟩ u).heap[q]? = w.heap[q]? := fun q hq => Below.heap_setCell _ _ _ _ hq
  refine ⟨x, ⟨(hold bb (fun e => (r3 g hg).1 e.symm)).trans h.box, h.low, ownsRow_of h.cod (fun q hq => hold q (fun e => (r3 g hg).2.1 (e ▸ hq))), ownsRow_of h.stk (fun q hq => hold q (fun e => (r3 g hg).2.2 (e ▸ hq))), ?_⟩, fun q hq => .inl hq, Keeps.setCell (F := x.foot bb) _ _ _ (.inr (.inr (.inr hg)))⟩
  rw [hform]
  show World.ownsRow _ _ _ _ _ l.length (openV l)
  rw [hset, hl]
  exact h1
set_option maxRecDepth 100000 in
set_option maxHeartbeats 4000000 in
theorem does_11_0 (kind : Nat) (a b : Int) (op : Nat) (w : World) (B bb : Nat) (x : Px) (s : St) (n : Nat) (hI : Inv s n) (hn : n ≤ 700000) (h : PAt w B bb x s) (hB : B ≤ w.heap.size) (hkd : kind < 256) (hop : op < 256) (hk : kind % 16 = 11) (p : Nat) (hp : op % 2 = p) (hr : op / 2 % 3 = 0) :
    Calls Tryz.prog 14 #[.pointer (some ⟨bb, 0, none⟩), .agg #[.int .u8 (kind : Int), .int .i64 a, .int .i64 b, .int .u8 (op : Int)]] w fun e w' => e = .returned (.tuple #[]) ∧ Upd w B bb x (doesP s ⟨kind, a, b, op⟩) w' := by
  obtain ⟨J, hJ⟩ : ∃ J, doesP s ⟨kind, a, b, op⟩ = J := ⟨_, rfl⟩
  rw [hJ]
  have HJ := Lib.hid hJ
  clear hJ
  obtain ⟨w0, hw0⟩ : ∃ w0, w.alloc (.cells #[.int .u8 (kind : Int), .int .i64 a, .int .i64 b, .int .u8 (op : Int)] 62) = w0 := ⟨_, rfl⟩
  have B0 : Below w.heap.size w w0 := by rw [← hw0]; exact (Below.refl _ _).alloc (Nat.le_refl _) _
  have z0 : w.heap.size < w0.heap.size := by rw [← hw0]; simp
  have hbox : ∀ (s' : St) (wr : World), Upd w0 B bb x s' wr → wr.cell? ⟨w.heap.size, 0, none⟩ = some (.int .u8 (kind : Int)) ∧ wr.cell? ⟨w.heap.size, 1, none⟩ = some (.int .i64 a) ∧ wr.cell? ⟨w.heap.size, 2, none⟩ = some (.int .i64 b) ∧ wr.cell? ⟨w.heap.size, 3, none⟩ = some (.int .u8 (op : Int)) ∧ w.heap.size < wr.heap.size := fun s' wr u => by
    rw [← hw0] at u
    exact ⟨Upd.box h u (by simp), Upd.box h u (by simp), Upd.box h u (by simp), Upd.box h u (by simp), by have := u.size; simp at this; omega⟩
  have HBOX := Lib.hid hbox
  have HB0 := Lib.hid B0
  have HI0 := Lib.hid hI
  have HU0 := Lib.hid (Upd.same (h.later B0))
  have HW := Lib.hid hw0
  obtain ⟨y0, y1, y2, y3, y4⟩ := hbox _ _ HU0.out
  have HH := Lib.hid h
  clear hbox h hI B0 hw0
  have hp9 : p < 2 := by omega
  have HO := Lib.hid (fun (W : World) (hb : Below w0.heap.size w0 W) => (opens_any (2 + (p : Int)) 64 W B bb x s n HI0.out (by omega) ((HH.out.later HB0.out).later hb) (Nat.le_trans hB (Nat.le_trans HB0.out.size hb.size)) (by decide)).mono (fun e w' hh => ⟨hh.1, Upd.after hb hh.2⟩ : ∀ e w', _ → e = .returned (.tuple #[]) ∧ Upd w0 B bb x (opensP s (2 + (p : Int)) 64) w'))
  have hki : (kind : Int) % 16 = 11 := by omega
  have hpi : (op : Int) % 2 = (p : Int) := by omega
  have hp2 : p < 2 := by omega
  have hri : (op : Int) / 2 % 3 = 0 := by omega
  have hpt : (op : Int).tmod 2 = (p : Int) := by rw [Int.tmod_eq_emod_of_nonneg (by omega)]; exact hpi
  have hdt : (op : Int).tdiv 2 = (op : Int) / 2 := Int.tdiv_eq_ediv_of_nonneg (by omega)
  have hrt : ((op : Int) / 2).tmod 3 = 0 := by rw [Int.tmod_eq_emod_of_nonneg (by omega)]; exact hri
  have hwq : IntKind.u8.wrap ((op : Int) / 2) = (op : Int) / 2 := IntWalk.u8_in _ (by omega)
  have hw64 : IntKind.i64.wrap (op : Int) = (op : Int) := IntWalk.i64_in _ (by omega)
  have hws : IntKind.i64.wrap (2 + (p : Int)) = 2 + (p : Int) := IntWalk.i64_in _ (by omega)
  go_enter Tryz.func14, Tryz.ntmps14
  have hw0 := HW.out
  go_upto_region 1 with fail
  clear hw0
  go_wp2_with fail
  go_region_with ((go_at_call 64; refine (HO.out _ ?_).mono ?_; (first | exact ((Below.refl _ _).alloc (Nat.le_refl _) _).drew | exact (Below.refl _ _).drew.alloc (Nat.le_refl _) _); rintro e1 w1 ⟨rfl, u1⟩))
  all_goals
    have HU1 := Lib.hid u1
    clear u1 y0 y1 y2 y3 y4
    go_wp2_with fail
    go_end0
    refine ⟨rfl, ?_⟩
    have hJ : doesP s ⟨kind, a, b, op⟩ = opensP s (2 + (p : Int)) 64 := by
      simp [doesP, hk, hp, hr]
    rw [← HJ.out, hJ]
    exact Upd.after HB0.out HU1.out
set_option maxRecDepth 100000 in
set_option maxHeartbeats 4000000 in
theorem does_11_1 (kind : Nat) (a b : Int) (op : Nat) (w : World) (B bb : Nat) (x : Px) (s : St) (n : Nat) (hI : Inv s n) (hn : n ≤ 700000) (h : PAt w B bb x s) (hB : B ≤ w.heap.size) (hkd : kind < 256) (hop : op < 256) (hk : kind % 16 = 11) (p : Nat) (hp : op % 2 = p) (hr : op / 2 % 3 = 1) :
    Calls Tryz.prog 14 #[.pointer (some ⟨bb, 0, none⟩), .agg #[.int .u8 (kind : Int), .int .i64 a, .int .i64 b, .int .u8 (op : Int)]] w fun e w' => e = .returned (.tuple #[]) ∧ Upd w B bb x (doesP s ⟨kind, a, b, op⟩) w' := by
  obtain ⟨J, hJ⟩ : ∃ J, doesP s ⟨kind, a, b, op⟩ = J := ⟨_, rfl⟩
  rw [hJ]
  have HJ := Lib.hid hJ
  clear hJ
  obtain ⟨w0, hw0⟩ : ∃ w0, w.alloc (.cells #[.int .u8 (kind : Int), .int .i64 a, .int .i64 b, .int .u8 (op : Int)] 62) = w0 := ⟨_, rfl⟩
  have B0 : Below w.heap.size w w0 := by rw [← hw0]; exact (Below.refl _ _).alloc (Nat.le_refl _) _
  have z0 : w.heap.size < w0.heap.size := by rw [← hw0]; simp
  have hbox : ∀ (s' : St) (wr : World), Upd w0 B bb x s' wr → wr.cell? ⟨w.heap.size, 0, none⟩ = some (.int .u8 (kind : Int)) ∧ wr.cell? ⟨w.heap.size, 1, none⟩ = some (.int .i64 a) ∧ wr.cell? ⟨w.heap.size, 2, none⟩ = some (.int .i64 b) ∧ wr.cell? ⟨w.heap.size, 3, none⟩ = some (.int .u8 (op : Int)) ∧ w.heap.size < wr.heap.size := fun s' wr u => by
    rw [← hw0] at u
    exact ⟨Upd.box h u (by simp), Upd.box h u (by simp), Upd.box h u (by simp), Upd.box h u (by simp), by have := u.size; simp at this; omega⟩
  have HBOX := Lib.hid hbox
  have HB0 := Lib.hid B0
  have HI0 := Lib.hid hI
  have HU0 := Lib.hid (Upd.same (h.later B0))
  have HW := Lib.hid hw0
  obtain ⟨y0, y1, y2, y3, y4⟩ := hbox _ _ HU0.out
  have HH := Lib.hid h
  clear hbox h hI B0 hw0
  have hp9 : p < 2 := by omega
  have HO := Lib.hid (fun (W : World) (hb : Below w0.heap.size w0 W) => (opens_any (2 + (p : Int)) 127 W B bb x s n HI0.out (by omega) ((HH.out.later HB0.out).later hb) (Nat.le_trans hB (Nat.le_trans HB0.out.size hb.size)) (by decide)).mono (fun e w' hh => ⟨hh.1, Upd.after hb hh.2⟩ : ∀ e w', _ → e = .returned (.tuple #[]) ∧ Upd w0 B bb x (opensP s (2 + (p : Int)) 127) w'))
  have hki : (kind : Int) % 16 = 11 := by omega
  have hpi : (op : Int) % 2 = (p : Int) := by omega
  have hp2 : p < 2 := by omega
  have hri : (op : Int) / 2 % 3 = 1 := by omega
  have hpt : (op : Int).tmod 2 = (p : Int) := by rw [Int.tmod_eq_emod_of_nonneg (by omega)]; exact hpi
  have hdt : (op : Int).tdiv 2 = (op : Int) / 2 := Int.tdiv_eq_ediv_of_nonneg (by omega)
  have hrt : ((op : Int) / 2).tmod 3 = 1 := by rw [Int.tmod_eq_emod_of_nonneg (by omega)]; exact hri
  have hwq : IntKind.u8.wrap ((op : Int) / 2) = (op : Int) / 2 := IntWalk.u8_in _ (by omega)
  have hw64 : IntKind.i64.wrap (op : Int) = (op : Int) := IntWalk.i64_in _ (by omega)
  have hws : IntKind.i64.wrap (2 + (p : Int)) = 2 + (p : Int) := IntWalk.i64_in _ (by omega)
  go_enter Tryz.func14, Tryz.ntmps14
  have hw0 := HW.out
  go_upto_region 1 with fail
  clear hw0
  go_wp2_with fail
  go_region_with ((go_at_call 64; refine (HO.out _ ?_).mono ?_; (first | exact ((Below.refl _ _).alloc (Nat.le_refl _) _).drew | exact (Below.refl _ _).drew.alloc (Nat.le_refl _) _); rintro e1 w1 ⟨rfl, u1⟩))
  all_goals
    have HU1 := Lib.hid u1
    clear u1 y0 y1 y2 y3 y4
    go_wp2_with fail
    go_end0
    refine ⟨rfl, ?_⟩
    have hJ : doesP s ⟨kind, a, b, op⟩ = opensP s (2 + (p : Int)) 127 := by
      simp [doesP, hk, hp, hr]
    rw [← HJ.out, hJ]
    exact Upd.after HB0.out HU1.out
set_option maxRecDepth 100000 in
set_option maxHeartbeats 4000000 in
theorem does_11_2 (kind : Nat) (a b : Int) (op : Nat) (w : World) (B bb : Nat) (x : Px) (s : St) (n : Nat) (hI : Inv s n) (hn : n ≤ 700000) (h : PAt w B bb x s) (hB : B ≤ w.heap.size) (hkd : kind < 256) (hop : op < 256) (hk : kind % 16 = 11) (p : Nat) (hp : op % 2 = p) (hr : op / 2 % 3 = 2) :
    Calls Tryz.prog 14 #[.pointer (some ⟨bb, 0, none⟩), .agg #[.int .u8 (kind : Int), .int .i64 a, .int .i64 b, .int .u8 (op : Int)]] w fun e w' => e = .returned (.tuple #[]) ∧ Upd w B bb x (doesP s ⟨kind, a, b, op⟩) w' := by
  obtain ⟨J, hJ⟩ : ∃ J, doesP s ⟨kind, a, b, op⟩ = J := ⟨_, rfl⟩
  rw [hJ]
  have HJ := Lib.hid hJ
  clear hJ
  obtain ⟨w0, hw0⟩ : ∃ w0, w.alloc (.cells #[.int .u8 (kind : Int), .int .i64 a, .int .i64 b, .int .u8 (op : Int)] 62) = w0 := ⟨_, rfl⟩
  have B0 : Below w.heap.size w w0 := by rw [← hw0]; exact (Below.refl _ _).alloc (Nat.le_refl _) _
  have z0 : w.heap.size < w0.heap.size := by rw [← hw0]; simp
  have hbox : ∀ (s' : St) (wr : World), Upd w0 B bb x s' wr → wr.cell? ⟨w.heap.size, 0, none⟩ = some (.int .u8 (kind : Int)) ∧ wr.cell? ⟨w.heap.size, 1, none⟩ = some (.int .i64 a) ∧ wr.cell? ⟨w.heap.size, 2, none⟩ = some (.int .i64 b) ∧ wr.cell? ⟨w.heap.size, 3, none⟩ = some (.int .u8 (op : Int)) ∧ w.heap.size < wr.heap.size := fun s' wr u => by
    rw [← hw0] at u
    exact ⟨Upd.box h u (by simp), Upd.box h u (by simp), Upd.box h u (by simp), Upd.box h u (by simp), by have := u.size; simp at this; omega⟩
  have HBOX := Lib.hid hbox
  have HB0 := Lib.hid B0
  have HI0 := Lib.hid hI
  have HU0 := Lib.hid (Upd.same (h.later B0))
  have HW := Lib.hid hw0
  obtain ⟨y0, y1, y2, y3, y4⟩ := hbox _ _ HU0.out
  have HH := Lib.hid h
  clear hbox h hI B0 hw0
  have hp9 : p < 2 := by omega
  have HO := Lib.hid (fun (W : World) (hb : Below w0.heap.size w0 W) => (opens_any (2 + (p : Int)) 126 W B bb x s n HI0.out (by omega) ((HH.out.later HB0.out).later hb) (Nat.le_trans hB (Nat.le_trans HB0.out.size hb.size)) (by decide)).mono (fun e w' hh => ⟨hh.1, Upd.after hb hh.2⟩ : ∀ e w', _ → e = .returned (.tuple #[]) ∧ Upd w0 B bb x (opensP s (2 + (p : Int)) 126) w'))
  have hki : (kind : Int) % 16 = 11 := by omega
  have hpi : (op : Int) % 2 = (p : Int) := by omega
  have hp2 : p < 2 := by omega
  have hri : (op : Int) / 2 % 3 = 2 := by omega
  have hpt : (op : Int).tmod 2 = (p : Int) := by rw [Int.tmod_eq_emod_of_nonneg (by omega)]; exact hpi
  have hdt : (op : Int).tdiv 2 = (op : Int) / 2 := Int.tdiv_eq_ediv_of_nonneg (by omega)
  have hrt : ((op : Int) / 2).tmod 3 = 2 := by rw [Int.tmod_eq_emod_of_nonneg (by omega)]; exact hri
  have hwq : IntKind.u8.wrap ((op : Int) / 2) = (op : Int) / 2 := IntWalk.u8_in _ (by omega)
  have hw64 : IntKind.i64.wrap (op : Int) = (op : Int) := IntWalk.i64_in _ (by omega)
  have hws : IntKind.i64.wrap (2 + (p : Int)) = 2 + (p : Int) := IntWalk.i64_in _ (by omega)
  go_enter Tryz.func14, Tryz.ntmps14
  have hw0 := HW.out
  go_upto_region 1 with fail
  clear hw0
  go_wp2_with fail
  go_region_with ((go_at_call 64; refine (HO.out _ ?_).mono ?_; (first | exact ((Below.refl _ _).alloc (Nat.le_refl _) _).drew | exact (Below.refl _ _).drew.alloc (Nat.le_refl _) _); rintro e1 w1 ⟨rfl, u1⟩))
  all_goals
    have HU1 := Lib.hid u1
    clear u1 y0 y1 y2 y3 y4
    go_wp2_with fail
    go_end0
    refine ⟨rfl, ?_⟩
    have hJ : doesP s ⟨kind, a, b, op⟩ = opensP s (2 + (p : Int)) 126 := by
      simp [doesP, hk, hp, hr]
    rw [← HJ.out, hJ]
    exact Upd.after HB0.out HU1.out
set_option maxRecDepth 100000 in
set_option maxHeartbeats 4000000 in
theorem does_12_0 (kind : Nat) (a b : Int) (op : Nat) (w : World) (B bb : Nat) (x : Px) (s : St) (n : Nat) (hI : Inv s n) (hn : n ≤ 700000) (h : PAt w B bb x s) (hB : B ≤ w.heap.size) (hkd : kind < 256) (hop : op < 256) (hk : kind % 16 = 12) (hp : op % 2 = 0) :
    Calls Tryz.prog 14 #[.pointer (some ⟨bb, 0, none⟩), .agg #[.int .u8 (kind : Int), .int .i64 a, .int .i64 b, .int .u8 (op : Int)]] w fun e w' => e = .returned (.tuple #[]) ∧ Upd w B bb x (doesP s ⟨kind, a, b, op⟩) w' := by
  obtain ⟨J, hJ⟩ : ∃ J, doesP s ⟨kind, a, b, op⟩ = J := ⟨_, rfl⟩
  rw [hJ]
  have HJ := Lib.hid hJ
  clear hJ
  obtain ⟨w0, hw0⟩ : ∃ w0, w.alloc (.cells #[.int .u8 (kind : Int), .int .i64 a, .int .i64 b, .int .u8 (op : Int)] 62) = w0 := ⟨_, rfl⟩
  have B0 : Below w.heap.size w w0 := by rw [← hw0]; exact (Below.refl _ _).alloc (Nat.le_refl _) _
  have z0 : w.heap.size < w0.heap.size := by rw [← hw0]; simp
  have hbox : ∀ (s' : St) (wr : World), Upd w0 B bb x s' wr → wr.cell? ⟨w.heap.size, 0, none⟩ = some (.int .u8 (kind : Int)) ∧ wr.cell? ⟨w.heap.size, 1, none⟩ = some (.int .i64 a) ∧ wr.cell? ⟨w.heap.size, 2, none⟩ = some (.int .i64 b) ∧ wr.cell? ⟨w.heap.size, 3, none⟩ = some (.int .u8 (op : Int)) ∧ w.heap.size < wr.heap.size := fun s' wr u => by
    rw [← hw0] at u
    exact ⟨Upd.box h u (by simp), Upd.box h u (by simp), Upd.box h u (by simp), Upd.box h u (by simp), by have := u.size; simp at this; omega⟩
  have HBOX := Lib.hid hbox
  have HB0 := Lib.hid B0
  have HI0 := Lib.hid hI
  have HU0 := Lib.hid (Upd.same (h.later B0))
  have HW := Lib.hid hw0
  obtain ⟨y0, y1, y2, y3, y4⟩ := hbox _ _ HU0.out
  have HH := Lib.hid h
  clear hbox h hI B0 hw0
  have hki : (kind : Int) % 16 = 12 := by omega
  have hpi : (op : Int) % 2 = 0 := by omega
  go_enter Tryz.func14, Tryz.ntmps14
  have hw0 := HW.out
  go_upto_region 1 with fail
  clear hw0
  go_wp2_with fail
  have HP1 := Lib.hid (has_want HI0.out 127)
  obtain ⟨x0, hA0, hf0, hk0⟩ := HU0.out
  have hBB0 : B ≤ w0.heap.size := Nat.le_trans hB (by have := hk0.size; omega)
  have hin0 := HI0.out
  have hsz0 := hin0.size
  have hc0 : (s : St).code.length < 1000000 := by omega
  have hs0 : (s : St).stack.length < 1000000 := by omega
  have hbn0 : n ≤ 700000 := hn
  have HC0 := Lib.hid (want_any 127 w0 B bb x0 _ _ hin0 (by omega) hA0 hBB0 (by decide))
  have HF0 := Lib.hid hf0
  have HK0 := Lib.hid hk0
  clear hA0 hf0 hk0 hBB0 hin0 hsz0 hc0 hs0 hbn0
  refine HC0.out.mono ?_
  rintro e1 w1 ⟨rfl, u1⟩
  have HU1 := Lib.hid (Upd.trans HF0.out HK0.out u1)
  have HI1 := Lib.hid (show Inv (wantP (s) 127 : St) (n + 4) from HI0.out.want (by decide))
  clear u1 HC0 HF0 HK0 y0 y1 y2 y3 y4
  obtain ⟨y0, y1, y2, y3, y4⟩ := HBOX.out _ _ HU1.out
  go_wp2_with fail
  obtain ⟨x1, hA1, hf1, hk1⟩ := HU1.out
  have hBB1 : B ≤ w1.heap.size := by have := hk1.size; omega
  have hin1 := HI1.out
  have hsz1 := hin1.size
  have hc1 : (wantP (s) 127 : St).code.length < 1000000 := by omega
  have hs1 : (wantP (s) 127 : St).stack.length < 1000000 := by omega
  have hbn1 : n ≤ 700000 := hn
  have HC1 := Lib.hid (take_any w1 B bb x1 (wantP (s) 127) hA1 hs1 (by have := HP1.out; unfold hasP at this; show 0 < _; exact Nat.lt_of_lt_of_le this (Nat.sub_le _ _)))
  have HF1 := Lib.hid hf1
  have HK1 := Lib.hid hk1
  clear hA1 hf1 hk1 hBB1 hin1 hsz1 hc1 hs1 hbn1
  refine HC1.out.mono ?_
  rintro e2 w2 ⟨rfl, u2⟩
  have HU2 := Lib.hid (Upd.trans HF1.out HK1.out u2)
  have HI2 := Lib.hid (show Inv (takeP (wantP (s) 127) : St) (n + 4) from HI1.out.take HP1.out)
  clear u2 HC1 HF1 HK1 y0 y1 y2 y3 y4
  obtain ⟨y0, y1, y2, y3, y4⟩ := HBOX.out _ _ HU2.out
  go_wp2_with fail
  obtain ⟨x2, hA2, hf2, hk2⟩ := HU2.out
  have hBB2 : B ≤ w2.heap.size := by have := hk2.size; omega
  have hin2 := HI2.out
  have hsz2 := hin2.size
  have hc2 : (takeP (wantP (s) 127) : St).code.length < 1000000 := by omega
  have hs2 : (takeP (wantP (s) 127) : St).stack.length < 1000000 := by omega
  have hbn2 : n ≤ 700000 := hn
  have HC2 := Lib.hid (opens_any (4) 64 w2 B bb x2 (takeP (wantP (s) 127)) _ hin2 (by omega) hA2 hBB2 (by decide))
  have HF2 := Lib.hid hf2
  have HK2 := Lib.hid hk2
  clear hA2 hf2 hk2 hBB2 hin2 hsz2 hc2 hs2 hbn2
  refine HC2.out.mono ?_
  rintro e3 w3 ⟨rfl, u3⟩
  have HU3 := Lib.hid (Upd.trans HF2.out HK2.out u3)
  have HI3 := Lib.hid (show Inv (opensP (takeP (wantP (s) 127)) (4) 64 : St) (n + 4 + 11) from HI2.out.opens (by decide) (by decide))
  clear u3 HC2 HF2 HK2 y0 y1 y2 y3 y4
  obtain ⟨y0, y1, y2, y3, y4⟩ := HBOX.out _ _ HU3.out
  go_wp2_with fail
  go_end0
  refine ⟨rfl, ?_⟩
  have hJ : doesP s ⟨kind, a, b, op⟩ = opensP (takeP (wantP (s) 127)) (4) 64 := by
    simp [doesP, hk]
  rw [← HJ.out, hJ]
  exact Upd.after HB0.out HU3.out
set_option maxRecDepth 100000 in
set_option maxHeartbeats 4000000 in
theorem does_12_1 (kind : Nat) (a b : Int) (op : Nat) (w : World) (B bb : Nat) (x : Px) (s : St) (n : Nat) (hI : Inv s n) (hn : n ≤ 700000) (h : PAt w B bb x s) (hB : B ≤ w.heap.size) (hkd : kind < 256) (hop : op < 256) (hk : kind % 16 = 12) (hp : op % 2 = 1) :
    Calls Tryz.prog 14 #[.pointer (some ⟨bb, 0, none⟩), .agg #[.int .u8 (kind : Int), .int .i64 a, .int .i64 b, .int .u8 (op : Int)]] w fun e w' => e = .returned (.tuple #[]) ∧ Upd w B bb x (doesP s ⟨kind, a, b, op⟩) w' := by
  obtain ⟨J, hJ⟩ : ∃ J, doesP s ⟨kind, a, b, op⟩ = J := ⟨_, rfl⟩
  rw [hJ]
  have HJ := Lib.hid hJ
  clear hJ
  obtain ⟨w0, hw0⟩ : ∃ w0, w.alloc (.cells #[.int .u8 (kind : Int), .int .i64 a, .int .i64 b, .int .u8 (op : Int)] 62) = w0 := ⟨_, rfl⟩
  have B0 : Below w.heap.size w w0 := by rw [← hw0]; exact (Below.refl _ _).alloc (Nat.le_refl _) _
  have z0 : w.heap.size < w0.heap.size := by rw [← hw0]; simp
  have hbox : ∀ (s' : St) (wr : World), Upd w0 B bb x s' wr → wr.cell? ⟨w.heap.size, 0, none⟩ = some (.int .u8 (kind : Int)) ∧ wr.cell? ⟨w.heap.size, 1, none⟩ = some (.int .i64 a) ∧ wr.cell? ⟨w.heap.size, 2, none⟩ = some (.int .i64 b) ∧ wr.cell? ⟨w.heap.size, 3, none⟩ = some (.int .u8 (op : Int)) ∧ w.heap.size < wr.heap.size := fun s' wr u => by
    rw [← hw0] at u
    exact ⟨Upd.box h u (by simp), Upd.box h u (by simp), Upd.box h u (by simp), Upd.box h u (by simp), by have := u.size; simp at this; omega⟩
  have HBOX := Lib.hid hbox
  have HB0 := Lib.hid B0
  have HI0 := Lib.hid hI
  have HU0 := Lib.hid (Upd.same (h.later B0))
  have HW := Lib.hid hw0
  obtain ⟨y0, y1, y2, y3, y4⟩ := hbox _ _ HU0.out
  have HH := Lib.hid h
  clear hbox h hI B0 hw0
  have hki : (kind : Int) % 16 = 12 := by omega
  have hpi : (op : Int) % 2 = 1 := by omega
  go_enter Tryz.func14, Tryz.ntmps14
  have hw0 := HW.out
  go_upto_region 1 with fail
  clear hw0
  go_wp2_with fail
  have HP1 := Lib.hid (has_want HI0.out 127)
  obtain ⟨x0, hA0, hf0, hk0⟩ := HU0.out
  have hBB0 : B ≤ w0.heap.size := Nat.le_trans hB (by have := hk0.size; omega)
  have hin0 := HI0.out
  have hsz0 := hin0.size
  have hc0 : (s : St).code.length < 1000000 := by omega
  have hs0 : (s : St).stack.length < 1000000 := by omega
  have hbn0 : n ≤ 700000 := hn
  have HC0 := Lib.hid (want_any 127 w0 B bb x0 _ _ hin0 (by omega) hA0 hBB0 (by decide))
  have HF0 := Lib.hid hf0
  have HK0 := Lib.hid hk0
  clear hA0 hf0 hk0 hBB0 hin0 hsz0 hc0 hs0 hbn0
  refine HC0.out.mono ?_
  rintro e1 w1 ⟨rfl, u1⟩
  have HU1 := Lib.hid (Upd.trans HF0.out HK0.out u1)
  have HI1 := Lib.hid (show Inv (wantP (s) 127 : St) (n + 4) from HI0.out.want (by decide))
  clear u1 HC0 HF0 HK0 y0 y1 y2 y3 y4
  obtain ⟨y0, y1, y2, y3, y4⟩ := HBOX.out _ _ HU1.out
  go_wp2_with fail
  obtain ⟨x1, hA1, hf1, hk1⟩ := HU1.out
  have hBB1 : B ≤ w1.heap.size := by have := hk1.size; omega
  have hin1 := HI1.out
  have hsz1 := hin1.size
  have hc1 : (wantP (s) 127 : St).code.length < 1000000 := by omega
  have hs1 : (wantP (s) 127 : St).stack.length < 1000000 := by omega
  have hbn1 : n ≤ 700000 := hn
  have HC1 := Lib.hid (take_any w1 B bb x1 (wantP (s) 127) hA1 hs1 (by have := HP1.out; unfold hasP at this; show 0 < _; exact Nat.lt_of_lt_of_le this (Nat.sub_le _ _)))
  have HF1 := Lib.hid hf1
  have HK1 := Lib.hid hk1
  clear hA1 hf1 hk1 hBB1 hin1 hsz1 hc1 hs1 hbn1
  refine HC1.out.mono ?_
  rintro e2 w2 ⟨rfl, u2⟩
  have HU2 := Lib.hid (Upd.trans HF1.out HK1.out u2)
  have HI2 := Lib.hid (show Inv (takeP (wantP (s) 127) : St) (n + 4) from HI1.out.take HP1.out)
  clear u2 HC1 HF1 HK1 y0 y1 y2 y3 y4
  obtain ⟨y0, y1, y2, y3, y4⟩ := HBOX.out _ _ HU2.out
  go_wp2_with fail
  obtain ⟨x2, hA2, hf2, hk2⟩ := HU2.out
  have hBB2 : B ≤ w2.heap.size := by have := hk2.size; omega
  have hin2 := HI2.out
  have hsz2 := hin2.size
  have hc2 : (takeP (wantP (s) 127) : St).code.length < 1000000 := by omega
  have hs2 : (takeP (wantP (s) 127) : St).stack.length < 1000000 := by omega
  have hbn2 : n ≤ 700000 := hn
  have HC2 := Lib.hid (opens_any (4) 64 w2 B bb x2 (takeP (wantP (s) 127)) _ hin2 (by omega) hA2 hBB2 (by decide))
  have HF2 := Lib.hid hf2
  have HK2 := Lib.hid hk2
  clear hA2 hf2 hk2 hBB2 hin2 hsz2 hc2 hs2 hbn2
  refine HC2.out.mono ?_
  rintro e3 w3 ⟨rfl, u3⟩
  have HU3 := Lib.hid (Upd.trans HF2.out HK2.out u3)
  have HI3 := Lib.hid (show Inv (opensP (takeP (wantP (s) 127)) (4) 64 : St) (n + 4 + 11) from HI2.out.opens (by decide) (by decide))
  clear u3 HC2 HF2 HK2 y0 y1 y2 y3 y4
  obtain ⟨y0, y1, y2, y3, y4⟩ := HBOX.out _ _ HU3.out
  go_wp2_with fail
  go_end0
  refine ⟨rfl, ?_⟩
  have hJ : doesP s ⟨kind, a, b, op⟩ = opensP (takeP (wantP (s) 127)) (4) 64 := by
    simp [doesP, hk]
  rw [← HJ.out, hJ]
  exact Upd.after HB0.out HU3.out
set_option maxRecDepth 100000 in
set_option maxHeartbeats 4000000 in
theorem does_14_0 (kind : Nat) (a b : Int) (op : Nat) (w : World) (B bb : Nat) (x : Px) (s : St) (n : Nat) (hI : Inv s n) (hn : n ≤ 700000) (h : PAt w B bb x s) (hB : B ≤ w.heap.size) (hkd : kind < 256) (hop : op < 256) (hk : kind % 16 = 14) (hp : op % 2 = 0) :
    Calls Tryz.prog 14 #[.pointer (some ⟨bb, 0, none⟩), .agg #[.int .u8 (kind : Int), .int .i64 a, .int .i64 b, .int .u8 (op : Int)]] w fun e w' => e = .returned (.tuple #[]) ∧ Upd w B bb x (doesP s ⟨kind, a, b, op⟩) w' := by
  obtain ⟨J, hJ⟩ : ∃ J, doesP s ⟨kind, a, b, op⟩ = J := ⟨_, rfl⟩
  rw [hJ]
  have HJ := Lib.hid hJ
  clear hJ
  obtain ⟨w0, hw0⟩ : ∃ w0, w.alloc (.cells #[.int .u8 (kind : Int), .int .i64 a, .int .i64 b, .int .u8 (op : Int)] 62) = w0 := ⟨_, rfl⟩
  have B0 : Below w.heap.size w w0 := by rw [← hw0]; exact (Below.refl _ _).alloc (Nat.le_refl _) _
  have z0 : w.heap.size < w0.heap.size := by rw [← hw0]; simp
  have hbox : ∀ (s' : St) (wr : World), Upd w0 B bb x s' wr → wr.cell? ⟨w.heap.size, 0, none⟩ = some (.int .u8 (kind : Int)) ∧ wr.cell? ⟨w.heap.size, 1, none⟩ = some (.int .i64 a) ∧ wr.cell? ⟨w.heap.size, 2, none⟩ = some (.int .i64 b) ∧ wr.cell? ⟨w.heap.size, 3, none⟩ = some (.int .u8 (op : Int)) ∧ w.heap.size < wr.heap.size := fun s' wr u => by
    rw [← hw0] at u
    exact ⟨Upd.box h u (by simp), Upd.box h u (by simp), Upd.box h u (by simp), Upd.box h u (by simp), by have := u.size; simp at this; omega⟩
  have HBOX := Lib.hid hbox
  have HB0 := Lib.hid B0
  have HI0 := Lib.hid hI
  have HU0 := Lib.hid (Upd.same (h.later B0))
  have HW := Lib.hid hw0
  obtain ⟨y0, y1, y2, y3, y4⟩ := hbox _ _ HU0.out
  have HH := Lib.hid h
  clear hbox h hI B0 hw0
  have hki : (kind : Int) % 16 = 14 := by omega
  have hpi : (op : Int) % 2 = 0 := by omega
  go_enter Tryz.func14, Tryz.ntmps14
  have hw0 := HW.out
  go_upto_region 1 with fail
  clear hw0
  go_wp2_with fail
  obtain ⟨x0, hA0, hf0, hk0⟩ := HU0.out
  have hBB0 : B ≤ w0.heap.size := Nat.le_trans hB (by have := hk0.size; omega)
  have hin0 := HI0.out
  have hsz0 := hin0.size
  have hc0 : (s : St).code.length < 1000000 := by omega
  have hs0 : (s : St).stack.length < 1000000 := by omega
  have hbn0 : n ≤ 700000 := hn
  have HC0 := Lib.hid (jumps_any op w0 B bb x0 _ _ hin0 (by omega) hA0 hBB0 hop)
  have HF0 := Lib.hid hf0
  have HK0 := Lib.hid hk0
  clear hA0 hf0 hk0 hBB0 hin0 hsz0 hc0 hs0 hbn0
  refine HC0.out.mono ?_
  rintro e1 w1 ⟨rfl, u1⟩
  have HU1 := Lib.hid (Upd.trans HF0.out HK0.out u1)
  have HI1 := Lib.hid (show Inv (jumpsP s op : St) (n + 5) from HI0.out.jumps op)
  clear u1 HC0 HF0 HK0 y0 y1 y2 y3 y4
  obtain ⟨y0, y1, y2, y3, y4⟩ := HBOX.out _ _ HU1.out
  go_wp2_with fail
  go_end0
  refine ⟨rfl, ?_⟩
  have hJ : doesP s ⟨kind, a, b, op⟩ = jumpsP s op := by
    simp [doesP, hk]
  rw [← HJ.out, hJ]
  exact Upd.after HB0.out HU1.out
set_option maxRecDepth 100000 in
set_option maxHeartbeats 4000000 in
theorem does_14_1 (kind : Nat) (a b : Int) (op : Nat) (w : World) (B bb : Nat) (x : Px) (s : St) (n : Nat) (hI : Inv s n) (hn : n ≤ 700000) (h : PAt w B bb x s) (hB : B ≤ w.heap.size) (hkd : kind < 256) (hop : op < 256) (hk : kind % 16 = 14) (hp : op % 2 = 1) :
    Calls Tryz.prog 14 #[.pointer (some ⟨bb, 0, none⟩), .agg #[.int .u8 (kind : Int), .int .i64 a, .int .i64 b, .int .u8 (op : Int)]] w fun e w' => e = .returned (.tuple #[]) ∧ Upd w B bb x (doesP s ⟨kind, a, b, op⟩) w' := by
  obtain ⟨J, hJ⟩ : ∃ J, doesP s ⟨kind, a, b, op⟩ = J := ⟨_, rfl⟩
  rw [hJ]
  have HJ := Lib.hid hJ
  clear hJ
  obtain ⟨w0, hw0⟩ : ∃ w0, w.alloc (.cells #[.int .u8 (kind : Int), .int .i64 a, .int .i64 b, .int .u8 (op : Int)] 62) = w0 := ⟨_, rfl⟩
  have B0 : Below w.heap.size w w0 := by rw [← hw0]; exact (Below.refl _ _).alloc (Nat.le_refl _) _
  have z0 : w.heap.size < w0.heap.size := by rw [← hw0]; simp
  have hbox : ∀ (s' : St) (wr : World), Upd w0 B bb x s' wr → wr.cell? ⟨w.heap.size, 0, none⟩ = some (.int .u8 (kind : Int)) ∧ wr.cell? ⟨w.heap.size, 1, none⟩ = some (.int .i64 a) ∧ wr.cell? ⟨w.heap.size, 2, none⟩ = some (.int .i64 b) ∧ wr.cell? ⟨w.heap.size, 3, none⟩ = some (.int .u8 (op : Int)) ∧ w.heap.size < wr.heap.size := fun s' wr u => by
    rw [← hw0] at u
    exact ⟨Upd.box h u (by simp), Upd.box h u (by simp), Upd.box h u (by simp), Upd.box h u (by simp), by have := u.size; simp at this; omega⟩
  have HBOX := Lib.hid hbox
  have HB0 := Lib.hid B0
  have HI0 := Lib.hid hI
  have HU0 := Lib.hid (Upd.same (h.later B0))
  have HW := Lib.hid hw0
  obtain ⟨y0, y1, y2, y3, y4⟩ := hbox _ _ HU0.out
  have HH := Lib.hid h
  clear hbox h hI B0 hw0
  have hki : (kind : Int) % 16 = 14 := by omega
  have hpi : (op : Int) % 2 = 1 := by omega
  go_enter Tryz.func14, Tryz.ntmps14
  have hw0 := HW.out
  go_upto_region 1 with fail
  clear hw0
  go_wp2_with fail
  obtain ⟨x0, hA0, hf0, hk0⟩ := HU0.out
  have hBB0 : B ≤ w0.heap.size := Nat.le_trans hB (by have := hk0.size; omega)
  have hin0 := HI0.out
  have hsz0 := hin0.size
  have hc0 : (s : St).code.length < 1000000 := by omega
  have hs0 : (s : St).stack.length < 1000000 := by omega
  have hbn0 : n ≤ 700000 := hn
  have HC0 := Lib.hid (jumps_any op w0 B bb x0 _ _ hin0 (by omega) hA0 hBB0 hop)
  have HF0 := Lib.hid hf0
  have HK0 := Lib.hid hk0
  clear hA0 hf0 hk0 hBB0 hin0 hsz0 hc0 hs0 hbn0
  refine HC0.out.mono ?_
  rintro e1 w1 ⟨rfl, u1⟩
  have HU1 := Lib.hid (Upd.trans HF0.out HK0.out u1)
  have HI1 := Lib.hid (show Inv (jumpsP s op : St) (n + 5) from HI0.out.jumps op)
  clear u1 HC0 HF0 HK0 y0 y1 y2 y3 y4
  obtain ⟨y0, y1, y2, y3, y4⟩ := HBOX.out _ _ HU1.out
  go_wp2_with fail
  go_end0
  refine ⟨rfl, ?_⟩
  have hJ : doesP s ⟨kind, a, b, op⟩ = jumpsP s op := by
    simp [doesP, hk]
  rw [← HJ.out, hJ]
  exact Upd.after HB0.out HU1.out
set_option maxRecDepth 100000 in
set_option maxHeartbeats 4000000 in
theorem does_15_0_0 (kind : Nat) (a b : Int) (op : Nat) (w : World) (B bb : Nat) (x : Px) (s : St) (n : Nat) (hI : Inv s n) (hn : n ≤ 700000) (h : PAt w B bb x s) (hB : B ≤ w.heap.size) (hkd : kind < 256) (hop : op < 256) (hk : kind % 16 = 15) (hp : op % 2 = 0) (hr : op % 3 = 0) :
    Calls Tryz.prog 14 #[.pointer (some ⟨bb, 0, none⟩), .agg #[.int .u8 (kind : Int), .int .i64 a, .int .i64 b, .int .u8 (op : Int)]] w fun e w' => e = .returned (.tuple #[]) ∧ Upd w B bb x (doesP s ⟨kind, a, b, op⟩) w' := by
  obtain ⟨J, hJ⟩ : ∃ J, doesP s ⟨kind, a, b, op⟩ = J := ⟨_, rfl⟩
  rw [hJ]
  have HJ := Lib.hid hJ
  clear hJ
  obtain ⟨w0, hw0⟩ : ∃ w0, w.alloc (.cells #[.int .u8 (kind : Int), .int .i64 a, .int .i64 b, .int .u8 (op : Int)] 62) = w0 := ⟨_, rfl⟩
  have B0 : Below w.heap.size w w0 := by rw [← hw0]; exact (Below.refl _ _).alloc (Nat.le_refl _) _
  have z0 : w.heap.size < w0.heap.size := by rw [← hw0]; simp
  have hbox : ∀ (s' : St) (wr : World), Upd w0 B bb x s' wr → wr.cell? ⟨w.heap.size, 0, none⟩ = some (.int .u8 (kind : Int)) ∧ wr.cell? ⟨w.heap.size, 1, none⟩ = some (.int .i64 a) ∧ wr.cell? ⟨w.heap.size, 2, none⟩ = some (.int .i64 b) ∧ wr.cell? ⟨w.heap.size, 3, none⟩ = some (.int .u8 (op : Int)) ∧ w.heap.size < wr.heap.size := fun s' wr u => by
    rw [← hw0] at u
    exact ⟨Upd.box h u (by simp), Upd.box h u (by simp), Upd.box h u (by simp), Upd.box h u (by simp), by have := u.size; simp at this; omega⟩
  have HBOX := Lib.hid hbox
  have HB0 := Lib.hid B0
  have HI0 := Lib.hid hI
  have HU0 := Lib.hid (Upd.same (h.later B0))
  have HW := Lib.hid hw0
  obtain ⟨y0, y1, y2, y3, y4⟩ := hbox _ _ HU0.out
  have HH := Lib.hid h
  clear hbox h hI B0 hw0
  have hki : (kind : Int) % 16 = 15 := by omega
  have hpi : (op : Int) % 2 = 0 := by omega
  have hri : (op : Int) % 3 = 0 := by omega
  go_enter Tryz.func14, Tryz.ntmps14
  have hw0 := HW.out
  go_upto_region 1 with fail
  clear hw0
  go_wp2_with fail
  obtain ⟨w1, hw1⟩ : ∃ W, w0.alloc (.cells #[.int .i64 63, .int .i64 1, .int .i64 63] 3) = W := ⟨_, rfl⟩
  have HU1 := Lib.hid (show Upd w0 B bb x (s) w1 by rw [← hw1]; exact HU0.out.then_ ((Below.refl _ _).alloc (Nat.le_refl _) _))
  have HI1 := Lib.hid HI0.out
  rw [hw1]
  clear hw1 y0 y1 y2 y3 y4
  obtain ⟨y0, y1, y2, y3, y4⟩ := HBOX.out _ _ HU1.out
  obtain ⟨x1, hA1, hf1, hk1⟩ := HU1.out
  have hBB1 : B ≤ w1.heap.size := by have := hk1.size; omega
  have hin1 := HI1.out
  have hsz1 := hin1.size
  have hc1 : (s : St).code.length < 1000000 := by omega
  have hs1 : (s : St).stack.length < 1000000 := by omega
  have hbn1 : n ≤ 700000 := hn
  have HC1 := Lib.hid (put_any (63) (0) (0) w1 B bb x1 (s) hA1 hBB1 hc1)
  have HF1 := Lib.hid hf1
  have HK1 := Lib.hid hk1
  clear hA1 hf1 hk1 hBB1 hin1 hsz1 hc1 hs1 hbn1
  refine HC1.out.mono ?_
  rintro e2 w2 ⟨rfl, u2⟩
  have HU2 := Lib.hid (Upd.trans HF1.out HK1.out u2)
  have HI2 := Lib.hid (show Inv (putP (s) (63) (0) (0) : St) (n + 1) from HI1.out.put _ _ _)
  clear u2 HC1 HF1 HK1 y0 y1 y2 y3 y4
  obtain ⟨y0, y1, y2, y3, y4⟩ := HBOX.out _ _ HU2.out
  go_wp2_with fail
  obtain ⟨x2, hA2, hf2, hk2⟩ := HU2.out
  have hBB2 : B ≤ w2.heap.size := by have := hk2.size; omega
  have hin2 := HI2.out
  have hsz2 := hin2.size
  have hc2 : (putP (s) (63) (0) (0) : St).code.length < 1000000 := by omega
  have hs2 : (putP (s) (63) (0) (0) : St).stack.length < 1000000 := by omega
  have hbn2 : n ≤ 700000 := hn
  have HC2 := Lib.hid (push_any 127 w2 B bb x2 (putP (s) (63) (0) (0)) hA2 hBB2 hs2)
  have HF2 := Lib.hid hf2
  have HK2 := Lib.hid hk2
  clear hA2 hf2 hk2 hBB2 hin2 hsz2 hc2 hs2 hbn2
  refine HC2.out.mono ?_
  rintro e3 w3 ⟨rfl, u3⟩
  have HU3 := Lib.hid (Upd.trans HF2.out HK2.out u3)
  have HI3 := Lib.hid (show Inv (pushP (putP (s) (63) (0) (0)) 127 : St) (n + 1 + 3) from HI2.out.push (by decide))
  clear u3 HC2 HF2 HK2 y0 y1 y2 y3 y4
  obtain ⟨y0, y1, y2, y3, y4⟩ := HBOX.out _ _ HU3.out
  go_wp2_with fail
  go_end0
  refine ⟨rfl, ?_⟩
  have hJ : doesP s ⟨kind, a, b, op⟩ = pushP (putP (s) (63) (0) (0)) 127 := by
    simp [doesP, hk, hr]
  rw [← HJ.out, hJ]
  exact Upd.after HB0.out HU3.out
set_option maxRecDepth 100000 in
set_option maxHeartbeats 4000000 in
theorem does_15_0_1 (kind : Nat) (a b : Int) (op : Nat) (w : World) (B bb : Nat) (x : Px) (s : St) (n : Nat) (hI : Inv s n) (hn : n ≤ 700000) (h : PAt w B bb x s) (hB : B ≤ w.heap.size) (hkd : kind < 256) (hop : op < 256) (hk : kind % 16 = 15) (hp : op % 2 = 0) (hr : op % 3 = 1) :
    Calls Tryz.prog 14 #[.pointer (some ⟨bb, 0, none⟩), .agg #[.int .u8 (kind : Int), .int .i64 a, .int .i64 b, .int .u8 (op : Int)]] w fun e w' => e = .returned (.tuple #[]) ∧ Upd w B bb x (doesP s ⟨kind, a, b, op⟩) w' := by
  obtain ⟨J, hJ⟩ : ∃ J, doesP s ⟨kind, a, b, op⟩ = J := ⟨_, rfl⟩
  rw [hJ]
  have HJ := Lib.hid hJ
  clear hJ
  obtain ⟨w0, hw0⟩ : ∃ w0, w.alloc (.cells #[.int .u8 (kind : Int), .int .i64 a, .int .i64 b, .int .u8 (op : Int)] 62) = w0 := ⟨_, rfl⟩
  have B0 : Below w.heap.size w w0 := by rw [← hw0]; exact (Below.refl _ _).alloc (Nat.le_refl _) _
  have z0 : w.heap.size < w0.heap.size := by rw [← hw0]; simp
  have hbox : ∀ (s' : St) (wr : World), Upd w0 B bb x s' wr → wr.cell? ⟨w.heap.size, 0, none⟩ = some (.int .u8 (kind : Int)) ∧ wr.cell? ⟨w.heap.size, 1, none⟩ = some (.int .i64 a) ∧ wr.cell? ⟨w.heap.size, 2, none⟩ = some (.int .i64 b) ∧ wr.cell? ⟨w.heap.size, 3, none⟩ = some (.int .u8 (op : Int)) ∧ w.heap.size < wr.heap.size := fun s' wr u => by
    rw [← hw0] at u
    exact ⟨Upd.box h u (by simp), Upd.box h u (by simp), Upd.box h u (by simp), Upd.box h u (by simp), by have := u.size; simp at this; omega⟩
  have HBOX := Lib.hid hbox
  have HB0 := Lib.hid B0
  have HI0 := Lib.hid hI
  have HU0 := Lib.hid (Upd.same (h.later B0))
  have HW := Lib.hid hw0
  obtain ⟨y0, y1, y2, y3, y4⟩ := hbox _ _ HU0.out
  have HH := Lib.hid h
  clear hbox h hI B0 hw0
  have hki : (kind : Int) % 16 = 15 := by omega
  have hpi : (op : Int) % 2 = 0 := by omega
  have hri : (op : Int) % 3 = 1 := by omega
  go_enter Tryz.func14, Tryz.ntmps14
  have hw0 := HW.out
  go_upto_region 1 with fail
  clear hw0
  go_wp2_with fail
  obtain ⟨w1, hw1⟩ : ∃ W, w0.alloc (.cells #[.int .i64 63, .int .i64 1, .int .i64 63] 3) = W := ⟨_, rfl⟩
  have HU1 := Lib.hid (show Upd w0 B bb x (s) w1 by rw [← hw1]; exact HU0.out.then_ ((Below.refl _ _).alloc (Nat.le_refl _) _))
  have HI1 := Lib.hid HI0.out
  rw [hw1]
  clear hw1 y0 y1 y2 y3 y4
  obtain ⟨y0, y1, y2, y3, y4⟩ := HBOX.out _ _ HU1.out
  obtain ⟨x1, hA1, hf1, hk1⟩ := HU1.out
  have hBB1 : B ≤ w1.heap.size := by have := hk1.size; omega
  have hin1 := HI1.out
  have hsz1 := hin1.size
  have hc1 : (s : St).code.length < 1000000 := by omega
  have hs1 : (s : St).stack.length < 1000000 := by omega
  have hbn1 : n ≤ 700000 := hn
  have HC1 := Lib.hid (put_any (1) (0) (0) w1 B bb x1 (s) hA1 hBB1 hc1)
  have HF1 := Lib.hid hf1
  have HK1 := Lib.hid hk1
  clear hA1 hf1 hk1 hBB1 hin1 hsz1 hc1 hs1 hbn1
  refine HC1.out.mono ?_
  rintro e2 w2 ⟨rfl, u2⟩
  have HU2 := Lib.hid (Upd.trans HF1.out HK1.out u2)
  have HI2 := Lib.hid (show Inv (putP (s) (1) (0) (0) : St) (n + 1) from HI1.out.put _ _ _)
  clear u2 HC1 HF1 HK1 y0 y1 y2 y3 y4
  obtain ⟨y0, y1, y2, y3, y4⟩ := HBOX.out _ _ HU2.out
  go_wp2_with fail
  go_end0
  refine ⟨rfl, ?_⟩
  have hJ : doesP s ⟨kind, a, b, op⟩ = putP (s) (1) (0) (0) := by
    simp [doesP, hk, hr]
  rw [← HJ.out, hJ]
  exact Upd.after HB0.out HU2.out
set_option maxRecDepth 100000 in
set_option maxHeartbeats 4000000 in
theorem does_15_0_2 (kind : Nat) (a b : Int) (op : Nat) (w : World) (B bb : Nat) (x : Px) (s : St) (n : Nat) (hI : Inv s n) (hn : n ≤ 700000) (h : PAt w B bb x s) (hB : B ≤ w.heap.size) (hkd : kind < 256) (hop : op < 256) (hk : kind % 16 = 15) (hp : op % 2 = 0) (hr : op % 3 = 2) :
    Calls Tryz.prog 14 #[.pointer (some ⟨bb, 0, none⟩), .agg #[.int .u8 (kind : Int), .int .i64 a, .int .i64 b, .int .u8 (op : Int)]] w fun e w' => e = .returned (.tuple #[]) ∧ Upd w B bb x (doesP s ⟨kind, a, b, op⟩) w' := by
  obtain ⟨J, hJ⟩ : ∃ J, doesP s ⟨kind, a, b, op⟩ = J := ⟨_, rfl⟩
  rw [hJ]
  have HJ := Lib.hid hJ
  clear hJ
  obtain ⟨w0, hw0⟩ : ∃ w0, w.alloc (.cells #[.int .u8 (kind : Int), .int .i64 a, .int .i64 b, .int .u8 (op : Int)] 62) = w0 := ⟨_, rfl⟩
  have B0 : Below w.heap.size w w0 := by rw [← hw0]; exact (Below.refl _ _).alloc (Nat.le_refl _) _
  have z0 : w.heap.size < w0.heap.size := by rw [← hw0]; simp
  have hbox : ∀ (s' : St) (wr : World), Upd w0 B bb x s' wr → wr.cell? ⟨w.heap.size, 0, none⟩ = some (.int .u8 (kind : Int)) ∧ wr.cell? ⟨w.heap.size, 1, none⟩ = some (.int .i64 a) ∧ wr.cell? ⟨w.heap.size, 2, none⟩ = some (.int .i64 b) ∧ wr.cell? ⟨w.heap.size, 3, none⟩ = some (.int .u8 (op : Int)) ∧ w.heap.size < wr.heap.size := fun s' wr u => by
    rw [← hw0] at u
    exact ⟨Upd.box h u (by simp), Upd.box h u (by simp), Upd.box h u (by simp), Upd.box h u (by simp), by have := u.size; simp at this; omega⟩
  have HBOX := Lib.hid hbox
  have HB0 := Lib.hid B0
  have HI0 := Lib.hid hI
  have HU0 := Lib.hid (Upd.same (h.later B0))
  have HW := Lib.hid hw0
  obtain ⟨y0, y1, y2, y3, y4⟩ := hbox _ _ HU0.out
  have HH := Lib.hid h
  clear hbox h hI B0 hw0
  have hki : (kind : Int) % 16 = 15 := by omega
  have hpi : (op : Int) % 2 = 0 := by omega
  have hri : (op : Int) % 3 = 2 := by omega
  go_enter Tryz.func14, Tryz.ntmps14
  have hw0 := HW.out
  go_upto_region 1 with fail
  clear hw0
  go_wp2_with fail
  obtain ⟨w1, hw1⟩ : ∃ W, w0.alloc (.cells #[.int .i64 63, .int .i64 1, .int .i64 63] 3) = W := ⟨_, rfl⟩
  have HU1 := Lib.hid (show Upd w0 B bb x (s) w1 by rw [← hw1]; exact HU0.out.then_ ((Below.refl _ _).alloc (Nat.le_refl _) _))
  have HI1 := Lib.hid HI0.out
  rw [hw1]
  clear hw1 y0 y1 y2 y3 y4
  obtain ⟨y0, y1, y2, y3, y4⟩ := HBOX.out _ _ HU1.out
  obtain ⟨x1, hA1, hf1, hk1⟩ := HU1.out
  have hBB1 : B ≤ w1.heap.size := by have := hk1.size; omega
  have hin1 := HI1.out
  have hsz1 := hin1.size
  have hc1 : (s : St).code.length < 1000000 := by omega
  have hs1 : (s : St).stack.length < 1000000 := by omega
  have hbn1 : n ≤ 700000 := hn
  have HC1 := Lib.hid (put_any (63) (0) (0) w1 B bb x1 (s) hA1 hBB1 hc1)
  have HF1 := Lib.hid hf1
  have HK1 := Lib.hid hk1
  clear hA1 hf1 hk1 hBB1 hin1 hsz1 hc1 hs1 hbn1
  refine HC1.out.mono ?_
  rintro e2 w2 ⟨rfl, u2⟩
  have HU2 := Lib.hid (Upd.trans HF1.out HK1.out u2)
  have HI2 := Lib.hid (show Inv (putP (s) (63) (0) (0) : St) (n + 1) from HI1.out.put _ _ _)
  clear u2 HC1 HF1 HK1 y0 y1 y2 y3 y4
  obtain ⟨y0, y1, y2, y3, y4⟩ := HBOX.out _ _ HU2.out
  go_wp2_with fail
  obtain ⟨x2, hA2, hf2, hk2⟩ := HU2.out
  have hBB2 : B ≤ w2.heap.size := by have := hk2.size; omega
  have hin2 := HI2.out
  have hsz2 := hin2.size
  have hc2 : (putP (s) (63) (0) (0) : St).code.length < 1000000 := by omega
  have hs2 : (putP (s) (63) (0) (0) : St).stack.length < 1000000 := by omega
  have hbn2 : n ≤ 700000 := hn
  have HC2 := Lib.hid (push_any 127 w2 B bb x2 (putP (s) (63) (0) (0)) hA2 hBB2 hs2)
  have HF2 := Lib.hid hf2
  have HK2 := Lib.hid hk2
  clear hA2 hf2 hk2 hBB2 hin2 hsz2 hc2 hs2 hbn2
  refine HC2.out.mono ?_
  rintro e3 w3 ⟨rfl, u3⟩
  have HU3 := Lib.hid (Upd.trans HF2.out HK2.out u3)
  have HI3 := Lib.hid (show Inv (pushP (putP (s) (63) (0) (0)) 127 : St) (n + 1 + 3) from HI2.out.push (by decide))
  clear u3 HC2 HF2 HK2 y0 y1 y2 y3 y4
  obtain ⟨y0, y1, y2, y3, y4⟩ := HBOX.out _ _ HU3.out
  go_wp2_with fail
  obtain ⟨x3, hA3, hf3, hk3⟩ := HU3.out
  have hBB3 : B ≤ w3.heap.size := by have := hk3.size; omega
  have hin3 := HI3.out
  have hsz3 := hin3.size
  have hc3 : (pushP (putP (s) (63) (0) (0)) 127 : St).code.length < 1000000 := by omega
  have hs3 : (pushP (putP (s) (63) (0) (0)) 127 : St).stack.length < 1000000 := by omega
  have hbn3 : n ≤ 700000 := hn
  have HC3 := Lib.hid (put_any (64) (0) (0) w3 B bb x3 (pushP (putP (s) (63) (0) (0)) 127) hA3 hBB3 hc3)
  have HF3 := Lib.hid hf3
  have HK3 := Lib.hid hk3
  clear hA3 hf3 hk3 hBB3 hin3 hsz3 hc3 hs3 hbn3
  refine HC3.out.mono ?_
  rintro e4 w4 ⟨rfl, u4⟩
  have HU4 := Lib.hid (Upd.trans HF3.out HK3.out u4)
  have HI4 := Lib.hid (show Inv (putP (pushP (putP (s) (63) (0) (0)) 127) (64) (0) (0) : St) (n + 1 + 3 + 1) from HI3.out.put _ _ _)
  clear u4 HC3 HF3 HK3 y0 y1 y2 y3 y4
  obtain ⟨y0, y1, y2, y3, y4⟩ := HBOX.out _ _ HU4.out
  go_wp2_with fail
  go_end0
  refine ⟨rfl, ?_⟩
  have hJ : doesP s ⟨kind, a, b, op⟩ = putP (pushP (putP (s) (63) (0) (0)) 127) (64) (0) (0) := by
    simp [doesP, hk, hr]
  rw [← HJ.out, hJ]
  exact Upd.after HB0.out HU4.out
set_option maxRecDepth 100000 in
set_option maxHeartbeats 4000000 in
theorem does_15_1_0 (kind : Nat) (a b : Int) (op : Nat) (w : World) (B bb : Nat) (x : Px) (s : St) (n : Nat) (hI : Inv s n) (hn : n ≤ 700000) (h : PAt w B bb x s) (hB : B ≤ w.heap.size) (hkd : kind < 256) (hop : op < 256) (hk : kind % 16 = 15) (hp : op % 2 = 1) (hr : op % 3 = 0) :
    Calls Tryz.prog 14 #[.pointer (some ⟨bb, 0, none⟩), .agg #[.int .u8 (kind : Int), .int .i64 a, .int .i64 b, .int .u8 (op : Int)]] w fun e w' => e = .returned (.tuple #[]) ∧ Upd w B bb x (doesP s ⟨kind, a, b, op⟩) w' := by
  obtain ⟨J, hJ⟩ : ∃ J, doesP s ⟨kind, a, b, op⟩ = J := ⟨_, rfl⟩
  rw [hJ]
  have HJ := Lib.hid hJ
  clear hJ
  obtain ⟨w0, hw0⟩ : ∃ w0, w.alloc (.cells #[.int .u8 (kind : Int), .int .i64 a, .int .i64 b, .int .u8 (op : Int)] 62) = w0 := ⟨_, rfl⟩
  have B0 : Below w.heap.size w w0 := by rw [← hw0]; exact (Below.refl _ _).alloc (Nat.le_refl _) _
  have z0 : w.heap.size < w0.heap.size := by rw [← hw0]; simp
  have hbox : ∀ (s' : St) (wr : World), Upd w0 B bb x s' wr → wr.cell? ⟨w.heap.size, 0, none⟩ = some (.int .u8 (kind : Int)) ∧ wr.cell? ⟨w.heap.size, 1, none⟩ = some (.int .i64 a) ∧ wr.cell? ⟨w.heap.size, 2, none⟩ = some (.int .i64 b) ∧ wr.cell? ⟨w.heap.size, 3, none⟩ = some (.int .u8 (op : Int)) ∧ w.heap.size < wr.heap.size := fun s' wr u => by
    rw [← hw0] at u
    exact ⟨Upd.box h u (by simp), Upd.box h u (by simp), Upd.box h u (by simp), Upd.box h u (by simp), by have := u.size; simp at this; omega⟩
  have HBOX := Lib.hid hbox
  have HB0 := Lib.hid B0
  have HI0 := Lib.hid hI
  have HU0 := Lib.hid (Upd.same (h.later B0))
  have HW := Lib.hid hw0
  obtain ⟨y0, y1, y2, y3, y4⟩ := hbox _ _ HU0.out
  have HH := Lib.hid h
  clear hbox h hI B0 hw0
  have hki : (kind : Int) % 16 = 15 := by omega
  have hpi : (op : Int) % 2 = 1 := by omega
  have hri : (op : Int) % 3 = 0 := by omega
  go_enter Tryz.func14, Tryz.ntmps14
  have hw0 := HW.out
  go_upto_region 1 with fail
  clear hw0
  go_wp2_with fail
  obtain ⟨w1, hw1⟩ : ∃ W, w0.alloc (.cells #[.int .i64 63, .int .i64 1, .int .i64 63] 3) = W := ⟨_, rfl⟩
  have HU1 := Lib.hid (show Upd w0 B bb x (s) w1 by rw [← hw1]; exact HU0.out.then_ ((Below.refl _ _).alloc (Nat.le_refl _) _))
  have HI1 := Lib.hid HI0.out
  rw [hw1]
  clear hw1 y0 y1 y2 y3 y4
  obtain ⟨y0, y1, y2, y3, y4⟩ := HBOX.out _ _ HU1.out
  obtain ⟨x1, hA1, hf1, hk1⟩ := HU1.out
  have hBB1 : B ≤ w1.heap.size := by have := hk1.size; omega
  have hin1 := HI1.out
  have hsz1 := hin1.size
  have hc1 : (s : St).code.length < 1000000 := by omega
  have hs1 : (s : St).stack.length < 1000000 := by omega
  have hbn1 : n ≤ 700000 := hn
  have HC1 := Lib.hid (put_any (63) (0) (0) w1 B bb x1 (s) hA1 hBB1 hc1)
  have HF1 := Lib.hid hf1
  have HK1 := Lib.hid hk1
  clear hA1 hf1 hk1 hBB1 hin1 hsz1 hc1 hs1 hbn1
  refine HC1.out.mono ?_
  rintro e2 w2 ⟨rfl, u2⟩
  have HU2 := Lib.hid (Upd.trans HF1.out HK1.out u2)
  have HI2 := Lib.hid (show Inv (putP (s) (63) (0) (0) : St) (n + 1) from HI1.out.put _ _ _)
  clear u2 HC1 HF1 HK1 y0 y1 y2 y3 y4
  obtain ⟨y0, y1, y2, y3, y4⟩ := HBOX.out _ _ HU2.out
  go_wp2_with fail
  obtain ⟨x2, hA2, hf2, hk2⟩ := HU2.out
  have hBB2 : B ≤ w2.heap.size := by have := hk2.size; omega
  have hin2 := HI2.out
  have hsz2 := hin2.size
  have hc2 : (putP (s) (63) (0) (0) : St).code.length < 1000000 := by omega
  have hs2 : (putP (s) (63) (0) (0) : St).stack.length < 1000000 := by omega
  have hbn2 : n ≤ 700000 := hn
  have HC2 := Lib.hid (push_any 127 w2 B bb x2 (putP (s) (63) (0) (0)) hA2 hBB2 hs2)
  have HF2 := Lib.hid hf2
  have HK2 := Lib.hid hk2
  clear hA2 hf2 hk2 hBB2 hin2 hsz2 hc2 hs2 hbn2
  refine HC2.out.mono ?_
  rintro e3 w3 ⟨rfl, u3⟩
  have HU3 := Lib.hid (Upd.trans HF2.out HK2.out u3)
  have HI3 := Lib.hid (show Inv (pushP (putP (s) (63) (0) (0)) 127 : St) (n + 1 + 3) from HI2.out.push (by decide))
  clear u3 HC2 HF2 HK2 y0 y1 y2 y3 y4
  obtain ⟨y0, y1, y2, y3, y4⟩ := HBOX.out _ _ HU3.out
  go_wp2_with fail
  go_end0
  refine ⟨rfl, ?_⟩
  have hJ : doesP s ⟨kind, a, b, op⟩ = pushP (putP (s) (63) (0) (0)) 127 := by
    simp [doesP, hk, hr]
  rw [← HJ.out, hJ]
  exact Upd.after HB0.out HU3.out
set_option maxRecDepth 100000 in
set_option maxHeartbeats 4000000 in
theorem does_15_1_1 (kind : Nat) (a b : Int) (op : Nat) (w : World) (B bb : Nat) (x : Px) (s : St) (n : Nat) (hI : Inv s n) (hn : n ≤ 700000) (h : PAt w B bb x s) (hB : B ≤ w.heap.size) (hkd : kind < 256) (hop : op < 256) (hk : kind % 16 = 15) (hp : op % 2 = 1) (hr : op % 3 = 1) :
    Calls Tryz.prog 14 #[.pointer (some ⟨bb, 0, none⟩), .agg #[.int .u8 (kind : Int), .int .i64 a, .int .i64 b, .int .u8 (op : Int)]] w fun e w' => e = .returned (.tuple #[]) ∧ Upd w B bb x (doesP s ⟨kind, a, b, op⟩) w' := by
  obtain ⟨J, hJ⟩ : ∃ J, doesP s ⟨kind, a, b, op⟩ = J := ⟨_, rfl⟩
  rw [hJ]
  have HJ := Lib.hid hJ
  clear hJ
  obtain ⟨w0, hw0⟩ : ∃ w0, w.alloc (.cells #[.int .u8 (kind : Int), .int .i64 a, .int .i64 b, .int .u8 (op : Int)] 62) = w0 := ⟨_, rfl⟩
  have B0 : Below w.heap.size w w0 := by rw [← hw0]; exact (Below.refl _ _).alloc (Nat.le_refl _) _
  have z0 : w.heap.size < w0.heap.size := by rw [← hw0]; simp
  have hbox : ∀ (s' : St) (wr : World), Upd w0 B bb x s' wr → wr.cell? ⟨w.heap.size, 0, none⟩ = some (.int .u8 (kind : Int)) ∧ wr.cell? ⟨w.heap.size, 1, none⟩ = some (.int .i64 a) ∧ wr.cell? ⟨w.heap.size, 2, none⟩ = some (.int .i64 b) ∧ wr.cell? ⟨w.heap.size, 3, none⟩ = some (.int .u8 (op : Int)) ∧ w.heap.size < wr.heap.size := fun s' wr u => by
    rw [← hw0] at u
    exact ⟨Upd.box h u (by simp), Upd.box h u (by simp), Upd.box h u (by simp), Upd.box h u (by simp), by have := u.size; simp at this; omega⟩
  have HBOX := Lib.hid hbox
  have HB0 := Lib.hid B0
  have HI0 := Lib.hid hI
  have HU0 := Lib.hid (Upd.same (h.later B0))
  have HW := Lib.hid hw0
  obtain ⟨y0, y1, y2, y3, y4⟩ := hbox _ _ HU0.out
  have HH := Lib.hid h
  clear hbox h hI B0 hw0
  have hki : (kind : Int) % 16 = 15 := by omega
  have hpi : (op : Int) % 2 = 1 := by omega
  have hri : (op : Int) % 3 = 1 := by omega
  go_enter Tryz.func14, Tryz.ntmps14
  have hw0 := HW.out
  go_upto_region 1 with fail
  clear hw0
  go_wp2_with fail
  obtain ⟨w1, hw1⟩ : ∃ W, w0.alloc (.cells #[.int .i64 63, .int .i64 1, .int .i64 63] 3) = W := ⟨_, rfl⟩
  have HU1 := Lib.hid (show Upd w0 B bb x (s) w1 by rw [← hw1]; exact HU0.out.then_ ((Below.refl _ _).alloc (Nat.le_refl _) _))
  have HI1 := Lib.hid HI0.out
  rw [hw1]
  clear hw1 y0 y1 y2 y3 y4
  obtain ⟨y0, y1, y2, y3, y4⟩ := HBOX.out _ _ HU1.out
  obtain ⟨x1, hA1, hf1, hk1⟩ := HU1.out
  have hBB1 : B ≤ w1.heap.size := by have := hk1.size; omega
  have hin1 := HI1.out
  have hsz1 := hin1.size
  have hc1 : (s : St).code.length < 1000000 := by omega
  have hs1 : (s : St).stack.length < 1000000 := by omega
  have hbn1 : n ≤ 700000 := hn
  have HC1 := Lib.hid (put_any (1) (0) (0) w1 B bb x1 (s) hA1 hBB1 hc1)
  have HF1 := Lib.hid hf1
  have HK1 := Lib.hid hk1
  clear hA1 hf1 hk1 hBB1 hin1 hsz1 hc1 hs1 hbn1
  refine HC1.out.mono ?_
  rintro e2 w2 ⟨rfl, u2⟩
  have HU2 := Lib.hid (Upd.trans HF1.out HK1.out u2)
  have HI2 := Lib.hid (show Inv (putP (s) (1) (0) (0) : St) (n + 1) from HI1.out.put _ _ _)
  clear u2 HC1 HF1 HK1 y0 y1 y2 y3 y4
  obtain ⟨y0, y1, y2, y3, y4⟩ := HBOX.out _ _ HU2.out
  go_wp2_with fail
  go_end0
  refine ⟨rfl, ?_⟩
  have hJ : doesP s ⟨kind, a, b, op⟩ = putP (s) (1) (0) (0) := by
    simp [doesP, hk, hr]
  rw [← HJ.out, hJ]
  exact Upd.after HB0.out HU2.out
set_option maxRecDepth 100000 in
set_option maxHeartbeats 4000000 in
theorem does_15_1_2 (kind : Nat) (a b : Int) (op : Nat) (w : World) (B bb : Nat) (x : Px) (s : St) (n : Nat) (hI : Inv s n) (hn : n ≤ 700000) (h : PAt w B bb x s) (hB : B ≤ w.heap.size) (hkd : kind < 256) (hop : op < 256) (hk : kind % 16 = 15) (hp : op % 2 = 1) (hr : op % 3 = 2) :
    Calls Tryz.prog 14 #[.pointer (some ⟨bb, 0, none⟩), .agg #[.int .u8 (kind : Int), .int .i64 a, .int .i64 b, .int .u8 (op : Int)]] w fun e w' => e = .returned (.tuple #[]) ∧ Upd w B bb x (doesP s ⟨kind, a, b, op⟩) w' := by
  obtain ⟨J, hJ⟩ : ∃ J, doesP s ⟨kind, a, b, op⟩ = J := ⟨_, rfl⟩
  rw [hJ]
  have HJ := Lib.hid hJ
  clear hJ
  obtain ⟨w0, hw0⟩ : ∃ w0, w.alloc (.cells #[.int .u8 (kind : Int), .int .i64 a, .int .i64 b, .int .u8 (op : Int)] 62) = w0 := ⟨_, rfl⟩
  have B0 : Below w.heap.size w w0 := by rw [← hw0]; exact (Below.refl _ _).alloc (Nat.le_refl _) _
  have z0 : w.heap.size < w0.heap.size := by rw [← hw0]; simp
  have hbox : ∀ (s' : St) (wr : World), Upd w0 B bb x s' wr → wr.cell? ⟨w.heap.size, 0, none⟩ = some (.int .u8 (kind : Int)) ∧ wr.cell? ⟨w.heap.size, 1, none⟩ = some (.int .i64 a) ∧ wr.cell? ⟨w.heap.size, 2, none⟩ = some (.int .i64 b) ∧ wr.cell? ⟨w.heap.size, 3, none⟩ = some (.int .u8 (op : Int)) ∧ w.heap.size < wr.heap.size := fun s' wr u => by
    rw [← hw0] at u
    exact ⟨Upd.box h u (by simp), Upd.box h u (by simp), Upd.box h u (by simp), Upd.box h u (by simp), by have := u.size; simp at this; omega⟩
  have HBOX := Lib.hid hbox
  have HB0 := Lib.hid B0
  have HI0 := Lib.hid hI
  have HU0 := Lib.hid (Upd.same (h.later B0))
  have HW := Lib.hid hw0
  obtain ⟨y0, y1, y2, y3, y4⟩ := hbox _ _ HU0.out
  have HH := Lib.hid h
  clear hbox h hI B0 hw0
  have hki : (kind : Int) % 16 = 15 := by omega
  have hpi : (op : Int) % 2 = 1 := by omega
  have hri : (op : Int) % 3 = 2 := by omega
  go_enter Tryz.func14, Tryz.ntmps14
  have hw0 := HW.out
  go_upto_region 1 with fail
  clear hw0
  go_wp2_with fail
  obtain ⟨w1, hw1⟩ : ∃ W, w0.alloc (.cells #[.int .i64 63, .int .i64 1, .int .i64 63] 3) = W := ⟨_, rfl⟩
  have HU1 := Lib.hid (show Upd w0 B bb x (s) w1 by rw [← hw1]; exact HU0.out.then_ ((Below.refl _ _).alloc (Nat.le_refl _) _))
  have HI1 := Lib.hid HI0.out
  rw [hw1]
  clear hw1 y0 y1 y2 y3 y4
  obtain ⟨y0, y1, y2, y3, y4⟩ := HBOX.out _ _ HU1.out
  obtain ⟨x1, hA1, hf1, hk1⟩ := HU1.out
  have hBB1 : B ≤ w1.heap.size := by have := hk1.size; omega
  have hin1 := HI1.out
  have hsz1 := hin1.size
  have hc1 : (s : St).code.length < 1000000 := by omega
  have hs1 : (s : St).stack.length < 1000000 := by omega
  have hbn1 : n ≤ 700000 := hn
  have HC1 := Lib.hid (put_any (63) (0) (0) w1 B bb x1 (s) hA1 hBB1 hc1)
  have HF1 := Lib.hid hf1
  have HK1 := Lib.hid hk1
  clear hA1 hf1 hk1 hBB1 hin1 hsz1 hc1 hs1 hbn1
  refine HC1.out.mono ?_
  rintro e2 w2 ⟨rfl, u2⟩
  have HU2 := Lib.hid (Upd.trans HF1.out HK1.out u2)
  have HI2 := Lib.hid (show Inv (putP (s) (63) (0) (0) : St) (n + 1) from HI1.out.put _ _ _)
  clear u2 HC1 HF1 HK1 y0 y1 y2 y3 y4
  obtain ⟨y0, y1, y2, y3, y4⟩ := HBOX.out _ _ HU2.out
  go_wp2_with fail
  obtain ⟨x2, hA2, hf2, hk2⟩ := HU2.out
  have hBB2 : B ≤ w2.heap.size := by have := hk2.size; omega
  have hin2 := HI2.out
  have hsz2 := hin2.size
  have hc2 : (putP (s) (63) (0) (0) : St).code.length < 1000000 := by omega
  have hs2 : (putP (s) (63) (0) (0) : St).stack.length < 1000000 := by omega
  have hbn2 : n ≤ 700000 := hn
  have HC2 := Lib.hid (push_any 127 w2 B bb x2 (putP (s) (63) (0) (0)) hA2 hBB2 hs2)
  have HF2 := Lib.hid hf2
  have HK2 := Lib.hid hk2
  clear hA2 hf2 hk2 hBB2 hin2 hsz2 hc2 hs2 hbn2
  refine HC2.out.mono ?_
  rintro e3 w3 ⟨rfl, u3⟩
  have HU3 := Lib.hid (Upd.trans HF2.out HK2.out u3)
  have HI3 := Lib.hid (show Inv (pushP (putP (s) (63) (0) (0)) 127 : St) (n + 1 + 3) from HI2.out.push (by decide))
  clear u3 HC2 HF2 HK2 y0 y1 y2 y3 y4
  obtain ⟨y0, y1, y2, y3, y4⟩ := HBOX.out _ _ HU3.out
  go_wp2_with fail
  obtain ⟨x3, hA3, hf3, hk3⟩ := HU3.out
  have hBB3 : B ≤ w3.heap.size := by have := hk3.size; omega
  have hin3 := HI3.out
  have hsz3 := hin3.size
  have hc3 : (pushP (putP (s) (63) (0) (0)) 127 : St).code.length < 1000000 := by omega
  have hs3 : (pushP (putP (s) (63) (0) (0)) 127 : St).stack.length < 1000000 := by omega
  have hbn3 : n ≤ 700000 := hn
  have HC3 := Lib.hid (put_any (64) (0) (0) w3 B bb x3 (pushP (putP (s) (63) (0) (0)) 127) hA3 hBB3 hc3)
  have HF3 := Lib.hid hf3
  have HK3 := Lib.hid hk3
  clear hA3 hf3 hk3 hBB3 hin3 hsz3 hc3 hs3 hbn3
  refine HC3.out.mono ?_
  rintro e4 w4 ⟨rfl, u4⟩
  have HU4 := Lib.hid (Upd.trans HF3.out HK3.out u4)
  have HI4 := Lib.hid (show Inv (putP (pushP (putP (s) (63) (0) (0)) 127) (64) (0) (0) : St) (n + 1 + 3 + 1) from HI3.out.put _ _ _)
  clear u4 HC3 HF3 HK3 y0 y1 y2 y3 y4
  obtain ⟨y0, y1, y2, y3, y4⟩ := HBOX.out _ _ HU4.out
  go_wp2_with fail
  go_end0
  refine ⟨rfl, ?_⟩
  have hJ : doesP s ⟨kind, a, b, op⟩ = putP (pushP (putP (s) (63) (0) (0)) 127) (64) (0) (0) := by
    simp [doesP, hk, hr]
  rw [← HJ.out, hJ]
  exact Upd.after HB0.out HU4.out
set_option maxRecDepth 100000 in
set_option maxHeartbeats 4000000 in
theorem does_13_none_0 (kind : Nat) (a b : Int) (op : Nat) (w : World) (B bb : Nat) (x : Px) (s : St) (n : Nat) (hI : Inv s n) (hn : n ≤ 700000) (h : PAt w B bb x s) (hB : B ≤ w.heap.size) (hkd : kind < 256) (hop : op < 256) (hk : kind % 16 = 13) (hp : op % 2 = 0) (h0 : s.opens = []) :
    Calls Tryz.prog 14 #[.pointer (some ⟨bb, 0, none⟩), .agg #[.int .u8 (kind : Int), .int .i64 a, .int .i64 b, .int .u8 (op : Int)]] w fun e w' => e = .returned (.tuple #[]) ∧ Upd w B bb x (doesP s ⟨kind, a, b, op⟩) w' := by
  obtain ⟨J, hJ⟩ : ∃ J, doesP s ⟨kind, a, b, op⟩ = J := ⟨_, rfl⟩
  rw [hJ]
  have HJ := Lib.hid hJ
  clear hJ
  obtain ⟨w0, hw0⟩ : ∃ w0, w.alloc (.cells #[.int .u8 (kind : Int), .int .i64 a, .int .i64 b, .int .u8 (op : Int)] 62) = w0 := ⟨_, rfl⟩
  have B0 : Below w.heap.size w w0 := by rw [← hw0]; exact (Below.refl _ _).alloc (Nat.le_refl _) _
  have z0 : w.heap.size < w0.heap.size := by rw [← hw0]; simp
  have hbox : ∀ (s' : St) (wr : World), Upd w0 B bb x s' wr → wr.cell? ⟨w.heap.size, 0, none⟩ = some (.int .u8 (kind : Int)) ∧ wr.cell? ⟨w.heap.size, 1, none⟩ = some (.int .i64 a) ∧ wr.cell? ⟨w.heap.size, 2, none⟩ = some (.int .i64 b) ∧ wr.cell? ⟨w.heap.size, 3, none⟩ = some (.int .u8 (op : Int)) ∧ w.heap.size < wr.heap.size := fun s' wr u => by
    rw [← hw0] at u
    exact ⟨Upd.box h u (by simp), Upd.box h u (by simp), Upd.box h u (by simp), Upd.box h u (by simp), by have := u.size; simp at this; omega⟩
  have HBOX := Lib.hid hbox
  have HB0 := Lib.hid B0
  have HI0 := Lib.hid hI
  have HU0 := Lib.hid (Upd.same (h.later B0))
  have HW := Lib.hid hw0
  obtain ⟨y0, y1, y2, y3, y4⟩ := hbox _ _ HU0.out
  have HH := Lib.hid h
  clear hbox h hI B0 hw0
  obtain ⟨oa, oc, hx, _⟩ := opens_form HH.out
  rw [h0] at hx
  have hce := (show PAt w0 B bb ⟨x.cv, x.sv, x.ov⟩ s from HH.out.later HB0.out).cells.2.2
  rw [hx] at hce
  clear hx
  have hki : (kind : Int) % 16 = 13 := by omega
  have hpi : (op : Int) % 2 = 0 := by omega
  go_enter Tryz.func14, Tryz.ntmps14
  have hw0 := HW.out
  go_upto_region 1 with fail
  clear hw0
  go_wp2_with fail
  clear y0 y1 y2 y3 y4 hce
  go_end0
  refine ⟨rfl, ?_⟩
  have hJ : doesP s ⟨kind, a, b, op⟩ = s := by
    simp [doesP, hk, h0]
  rw [← HJ.out, hJ]
  exact Upd.after HB0.out HU0.out
set_option maxRecDepth 100000 in
set_option maxHeartbeats 4000000 in
theorem does_13_none_1 (kind : Nat) (a b : Int) (op : Nat) (w : World) (B bb : Nat) (x : Px) (s : St) (n : Nat) (hI : Inv s n) (hn : n ≤ 700000) (h : PAt w B bb x s) (hB : B ≤ w.heap.size) (hkd : kind < 256) (hop : op < 256) (hk : kind % 16 = 13) (hp : op % 2 = 1) (h0 : s.opens = []) :
    Calls Tryz.prog 14 #[.pointer (some ⟨bb, 0, none⟩), .agg #[.int .u8 (kind : Int), .int .i64 a, .int .i64 b, .int .u8 (op : Int)]] w fun e w' => e = .returned (.tuple #[]) ∧ Upd w B bb x (doesP s ⟨kind, a, b, op⟩) w' := by
  obtain ⟨J, hJ⟩ : ∃ J, doesP s ⟨kind, a, b, op⟩ = J := ⟨_, rfl⟩
  rw [hJ]
  have HJ := Lib.hid hJ
  clear hJ
  obtain ⟨w0, hw0⟩ : ∃ w0, w.alloc (.cells #[.int .u8 (kind : Int), .int .i64 a, .int .i64 b, .int .u8 (op : Int)] 62) = w0 := ⟨_, rfl⟩
  have B0 : Below w.heap.size w w0 := by rw [← hw0]; exact (Below.refl _ _).alloc (Nat.le_refl _) _
  have z0 : w.heap.size < w0.heap.size := by rw [← hw0]; simp
  have hbox : ∀ (s' : St) (wr : World), Upd w0 B bb x s' wr → wr.cell? ⟨w.heap.size, 0, none⟩ = some (.int .u8 (kind : Int)) ∧ wr.cell? ⟨w.heap.size, 1, none⟩ = some (.int .i64 a) ∧ wr.cell? ⟨w.heap.size, 2, none⟩ = some (.int .i64 b) ∧ wr.cell? ⟨w.heap.size, 3, none⟩ = some (.int .u8 (op : Int)) ∧ w.heap.size < wr.heap.size := fun s' wr u => by
    rw [← hw0] at u
    exact ⟨Upd.box h u (by simp), Upd.box h u (by simp), Upd.box h u (by simp), Upd.box h u (by simp), by have := u.size; simp at this; omega⟩
  have HBOX := Lib.hid hbox
  have HB0 := Lib.hid B0
  have HI0 := Lib.hid hI
  have HU0 := Lib.hid (Upd.same (h.later B0))
  have HW := Lib.hid hw0
  obtain ⟨y0, y1, y2, y3, y4⟩ := hbox _ _ HU0.out
  have HH := Lib.hid h
  clear hbox h hI B0 hw0
  obtain ⟨oa, oc, hx, _⟩ := opens_form HH.out
  rw [h0] at hx
  have hce := (show PAt w0 B bb ⟨x.cv, x.sv, x.ov⟩ s from HH.out.later HB0.out).cells.2.2
  rw [hx] at hce
  clear hx
  have hki : (kind : Int) % 16 = 13 := by omega
  have hpi : (op : Int) % 2 = 1 := by omega
  go_enter Tryz.func14, Tryz.ntmps14
  have hw0 := HW.out
  go_upto_region 1 with fail
  clear hw0
  go_wp2_with fail
  clear y0 y1 y2 y3 y4 hce
  go_end0
  refine ⟨rfl, ?_⟩
  have hJ : doesP s ⟨kind, a, b, op⟩ = s := by
    simp [doesP, hk, h0]
  rw [← HJ.out, hJ]
  exact Upd.after HB0.out HU0.out
set_option maxRecDepth 100000 in
set_option maxHeartbeats 4000000 in
theorem does_13_shut_0 (kind : Nat) (a b : Int) (op : Nat) (w : World) (B bb : Nat) (x : Px) (s : St) (n : Nat) (hI : Inv s n) (hn : n ≤ 700000) (h : PAt w B bb x s) (hB : B ≤ w.heap.size) (hkd : kind < 256) (hop : op < 256) (hk : kind % 16 = 13) (hp : op % 2 = 0) (bl : Opn) (h0 : s.opens.getLast? = some bl) (h4 : bl.op ≠ 4) :
    Calls Tryz.prog 14 #[.pointer (some ⟨bb, 0, none⟩), .agg #[.int .u8 (kind : Int), .int .i64 a, .int .i64 b, .int .u8 (op : Int)]] w fun e w' => e = .returned (.tuple #[]) ∧ Upd w B bb x (doesP s ⟨kind, a, b, op⟩) w' := by
  obtain ⟨J, hJ⟩ : ∃ J, doesP s ⟨kind, a, b, op⟩ = J := ⟨_, rfl⟩
  rw [hJ]
  have HJ := Lib.hid hJ
  clear hJ
  obtain ⟨w0, hw0⟩ : ∃ w0, w.alloc (.cells #[.int .u8 (kind : Int), .int .i64 a, .int .i64 b, .int .u8 (op : Int)] 62) = w0 := ⟨_, rfl⟩
  have B0 : Below w.heap.size w w0 := by rw [← hw0]; exact (Below.refl _ _).alloc (Nat.le_refl _) _
  have z0 : w.heap.size < w0.heap.size := by rw [← hw0]; simp
  have hbox : ∀ (s' : St) (wr : World), Upd w0 B bb x s' wr → wr.cell? ⟨w.heap.size, 0, none⟩ = some (.int .u8 (kind : Int)) ∧ wr.cell? ⟨w.heap.size, 1, none⟩ = some (.int .i64 a) ∧ wr.cell? ⟨w.heap.size, 2, none⟩ = some (.int .i64 b) ∧ wr.cell? ⟨w.heap.size, 3, none⟩ = some (.int .u8 (op : Int)) ∧ w.heap.size < wr.heap.size := fun s' wr u => by
    rw [← hw0] at u
    exact ⟨Upd.box h u (by simp), Upd.box h u (by simp), Upd.box h u (by simp), Upd.box h u (by simp), by have := u.size; simp at this; omega⟩
  have HBOX := Lib.hid hbox
  have HB0 := Lib.hid B0
  have HI0 := Lib.hid hI
  have HU0 := Lib.hid (Upd.same (h.later B0))
  have HW := Lib.hid hw0
  obtain ⟨y0, y1, y2, y3, y4⟩ := hbox _ _ HU0.out
  have HH := Lib.hid h
  clear hbox h hI B0 hw0
  obtain ⟨l0, hl0⟩ : ∃ l0, s.opens = l0 ++ [bl] := by
    rcases List.eq_nil_or_concat s.opens with he | ⟨l0, z, he⟩
    · rw [he] at h0; cases h0
    · rw [List.concat_eq_append] at he
      rw [he] at h0
      simp at h0
      subst h0
      exact ⟨l0, he⟩
  obtain ⟨o1, o2⟩ := HI0.out.os bl (last_mem h0)
  have HA0 := Lib.hid (HH.out.later HB0.out)
  obtain ⟨g, cap, hv, hcap, hgl, d0, d1, d2, _⟩ := HA0.out.lastOpen hl0
  obtain ⟨q1, q2, q3⟩ := HI0.out.bounds (by omega)
  have hll : l0.length < 1000000 := by rw [hl0] at q3; simp at q3; omega
  have hce := (show PAt w0 B bb ⟨x.cv, x.sv, x.ov⟩ s from HA0.out).cells.2.2
  rw [hv] at hce
  have hbl := HA0.out.lt
  have hwl : IntKind.i64.wrap (l0.length : Int) = (l0.length : Int) := IntWalk.i64_in _ (by omega)
  have hi0 : (0 : Int) ≤ (l0.length : Int) := by omega
  have hi1 : (l0.length : Int) < (l0.length : Int) + 1 := by omega
  have hres : bl.res < 256 := by omega
  have HOL := Lib.hid hl0
  have HTOP := Lib.hid (top_of h0).symm
  have H0 := Lib.hid h0
  clear hl0 hv q1 q2 q3 h0
  have hki : (kind : Int) % 16 = 13 := by omega
  have hpi : (op : Int) % 2 = 0 := by omega
  have t4 : (bl.op == 4) = false := beq_eq_false_iff_ne.2 h4
  have H4 := Lib.hid h4
  clear h4
  go_enter Tryz.func14, Tryz.ntmps14
  have hw0 := HW.out
  go_upto_region 1 with fail
  clear hw0
  go_wp2_with fail
  go_region
  all_goals
    go_upto_region 66 with fail
    obtain ⟨W1, hW1⟩ : ∃ W1, (w0.alloc (.cells #[.int .i64 bl.op, .int .u8 (bl.res : Int), .int .i64 (bl.height : Int)] 65)).drew = W1 := ⟨_, rfl⟩
    have B1 : Below w0.heap.size w0 W1 := by rw [← hW1]; exact ((Below.refl _ _).alloc (Nat.le_refl _) _).drew
    have z1 : w0.heap.size < W1.heap.size := by rw [← hW1]; show _ < (w0.alloc _).heap.size; simp
    have v0 : W1.cell? ⟨w0.heap.size, 0, none⟩ = some (.int .i64 bl.op) := by rw [← hW1]; show (w0.alloc _).cell? _ = _; simp
    have v1 : W1.cell? ⟨w0.heap.size, 1, none⟩ = some (.int .u8 (bl.res : Int)) := by rw [← hW1]; show (w0.alloc _).cell? _ = _; simp
    have v2 : W1.cell? ⟨w0.heap.size, 2, none⟩ = some (.int .i64 (bl.height : Int)) := by rw [← hW1]; show (w0.alloc _).cell? _ = _; simp
    rw [hW1]
    have HB1 := Lib.hid B1
    have HU1 := Lib.hid (Upd.below HA0.out B1)
    clear hW1 hce d0 d1 d2 B1 y0 y1 y2 y3 y4
    obtain ⟨y0, y1, y2, y3, y4⟩ := HBOX.out _ _ HU1.out
    go_wp2_with fail
    refine (shut_any bl W1 B bb x s n HI0.out (by omega) (HA0.out.later HB1.out) (Nat.le_trans hB (Nat.le_trans HB0.out.size HB1.out.size)) H0.out).mono ?_
    rintro e2 w2 ⟨rfl, u2⟩
    have HU2 := Lib.hid (Upd.after HB1.out u2)
    clear u2 y0 y1 y2 y3 y4 v0 v1 v2
    go_wp2_with fail
    go_end0
    refine ⟨rfl, ?_⟩
    have hJ : doesP s ⟨kind, a, b, op⟩ = shutP s bl := by
      simp [doesP, hk, H0.out, H4.out, hp]
    rw [← HJ.out, hJ]
    exact Upd.after HB0.out HU2.out
set_option maxRecDepth 100000 in
set_option maxHeartbeats 4000000 in
theorem does_13_shut_1_if (kind : Nat) (a b : Int) (op : Nat) (w : World) (B bb : Nat) (x : Px) (s : St) (n : Nat) (hI : Inv s n) (hn : n ≤ 700000) (h : PAt w B bb x s) (hB : B ≤ w.heap.size) (hkd : kind < 256) (hop : op < 256) (hk : kind % 16 = 13) (hp : op % 2 = 1) (bl : Opn) (h0 : s.opens.getLast? = some bl) (h4 : bl.op = 4) :
    Calls Tryz.prog 14 #[.pointer (some ⟨bb, 0, none⟩), .agg #[.int .u8 (kind : Int), .int .i64 a, .int .i64 b, .int .u8 (op : Int)]] w fun e w' => e = .returned (.tuple #[]) ∧ Upd w B bb x (doesP s ⟨kind, a, b, op⟩) w' := by
  obtain ⟨J, hJ⟩ : ∃ J, doesP s ⟨kind, a, b, op⟩ = J := ⟨_, rfl⟩
  rw [hJ]
  have HJ := Lib.hid hJ
  clear hJ
  obtain ⟨w0, hw0⟩ : ∃ w0, w.alloc (.cells #[.int .u8 (kind : Int), .int .i64 a, .int .i64 b, .int .u8 (op : Int)] 62) = w0 := ⟨_, rfl⟩
  have B0 : Below w.heap.size w w0 := by rw [← hw0]; exact (Below.refl _ _).alloc (Nat.le_refl _) _
  have z0 : w.heap.size < w0.heap.size := by rw [← hw0]; simp
  have hbox : ∀ (s' : St) (wr : World), Upd w0 B bb x s' wr → wr.cell? ⟨w.heap.size, 0, none⟩ = some (.int .u8 (kind : Int)) ∧ wr.cell? ⟨w.heap.size, 1, none⟩ = some (.int .i64 a) ∧ wr.cell? ⟨w.heap.size, 2, none⟩ = some (.int .i64 b) ∧ wr.cell? ⟨w.heap.size, 3, none⟩ = some (.int .u8 (op : Int)) ∧ w.heap.size < wr.heap.size := fun s' wr u => by
    rw [← hw0] at u
    exact ⟨Upd.box h u (by simp), Upd.box h u (by simp), Upd.box h u (by simp), Upd.box h u (by simp), by have := u.size; simp at this; omega⟩
  have HBOX := Lib.hid hbox
  have HB0 := Lib.hid B0
  have HI0 := Lib.hid hI
  have HU0 := Lib.hid (Upd.same (h.later B0))
  have HW := Lib.hid hw0
  obtain ⟨y0, y1, y2, y3, y4⟩ := hbox _ _ HU0.out
  have HH := Lib.hid h
  clear hbox h hI B0 hw0
  obtain ⟨l0, hl0⟩ : ∃ l0, s.opens = l0 ++ [bl] := by
    rcases List.eq_nil_or_concat s.opens with he | ⟨l0, z, he⟩
    · rw [he] at h0; cases h0
    · rw [List.concat_eq_append] at he
      rw [he] at h0
      simp at h0
      subst h0
      exact ⟨l0, he⟩
  obtain ⟨o1, o2⟩ := HI0.out.os bl (last_mem h0)
  have HA0 := Lib.hid (HH.out.later HB0.out)
  obtain ⟨g, cap, hv, hcap, hgl, d0, d1, d2, _⟩ := HA0.out.lastOpen hl0
  obtain ⟨q1, q2, q3⟩ := HI0.out.bounds (by omega)
  have hll : l0.length < 1000000 := by rw [hl0] at q3; simp at q3; omega
  have hce := (show PAt w0 B bb ⟨x.cv, x.sv, x.ov⟩ s from HA0.out).cells.2.2
  rw [hv] at hce
  have hbl := HA0.out.lt
  have hwl : IntKind.i64.wrap (l0.length : Int) = (l0.length : Int) := IntWalk.i64_in _ (by omega)
  have hi0 : (0 : Int) ≤ (l0.length : Int) := by omega
  have hi1 : (l0.length : Int) < (l0.length : Int) + 1 := by omega
  have hres : bl.res < 256 := by omega
  have HOL := Lib.hid hl0
  have HTOP := Lib.hid (top_of h0).symm
  have H0 := Lib.hid h0
  clear hl0 hv q1 q2 q3 h0
  have hki : (kind : Int) % 16 = 13 := by omega
  have hpi : (op : Int) % 2 = 1 := by omega
  have t4 : (bl.op == 4) = true := by rw [h4]; rfl
  have H4 := Lib.hid h4
  clear h4
  go_enter Tryz.func14, Tryz.ntmps14
  have hw0 := HW.out
  go_upto_region 1 with fail
  clear hw0
  go_wp2_with fail
  go_region
  all_goals
    go_upto_region 66 with fail
    obtain ⟨W1, hW1⟩ : ∃ W1, (w0.alloc (.cells #[.int .i64 bl.op, .int .u8 (bl.res : Int), .int .i64 (bl.height : Int)] 65)).drew = W1 := ⟨_, rfl⟩
    have B1 : Below w0.heap.size w0 W1 := by rw [← hW1]; exact ((Below.refl _ _).alloc (Nat.le_refl _) _).drew
    have z1 : w0.heap.size < W1.heap.size := by rw [← hW1]; show _ < (w0.alloc _).heap.size; simp
    have v0 : W1.cell? ⟨w0.heap.size, 0, none⟩ = some (.int .i64 bl.op) := by rw [← hW1]; show (w0.alloc _).cell? _ = _; simp
    have v1 : W1.cell? ⟨w0.heap.size, 1, none⟩ = some (.int .u8 (bl.res : Int)) := by rw [← hW1]; show (w0.alloc _).cell? _ = _; simp
    have v2 : W1.cell? ⟨w0.heap.size, 2, none⟩ = some (.int .i64 (bl.height : Int)) := by rw [← hW1]; show (w0.alloc _).cell? _ = _; simp
    rw [hW1]
    have HB1 := Lib.hid B1
    have HU1 := Lib.hid (Upd.below HA0.out B1)
    clear hW1 hce d0 d1 d2 B1 y0 y1 y2 y3 y4
    obtain ⟨y0, y1, y2, y3, y4⟩ := HBOX.out _ _ HU1.out
    go_wp2_with fail
    refine (shut_any bl W1 B bb x s n HI0.out (by omega) (HA0.out.later HB1.out) (Nat.le_trans hB (Nat.le_trans HB0.out.size HB1.out.size)) H0.out).mono ?_
    rintro e2 w2 ⟨rfl, u2⟩
    have HU2 := Lib.hid (Upd.after HB1.out u2)
    clear u2 y0 y1 y2 y3 y4 v0 v1 v2
    go_wp2_with fail
    go_end0
    refine ⟨rfl, ?_⟩
    have hJ : doesP s ⟨kind, a, b, op⟩ = shutP s bl := by
      simp [doesP, hk, H0.out, H4.out, hp]
    rw [← HJ.out, hJ]
    exact Upd.after HB0.out HU2.out
set_option maxRecDepth 100000 in
set_option maxHeartbeats 4000000 in
theorem does_13_shut_1 (kind : Nat) (a b : Int) (op : Nat) (w : World) (B bb : Nat) (x : Px) (s : St) (n : Nat) (hI : Inv s n) (hn : n ≤ 700000) (h : PAt w B bb x s) (hB : B ≤ w.heap.size) (hkd : kind < 256) (hop : op < 256) (hk : kind % 16 = 13) (hp : op % 2 = 1) (bl : Opn) (h0 : s.opens.getLast? = some bl) (h4 : bl.op ≠ 4) :
    Calls Tryz.prog 14 #[.pointer (some ⟨bb, 0, none⟩), .agg #[.int .u8 (kind : Int), .int .i64 a, .int .i64 b, .int .u8 (op : Int)]] w fun e w' => e = .returned (.tuple #[]) ∧ Upd w B bb x (doesP s ⟨kind, a, b, op⟩) w' := by
  obtain ⟨J, hJ⟩ : ∃ J, doesP s ⟨kind, a, b, op⟩ = J := ⟨_, rfl⟩
  rw [hJ]
  have HJ := Lib.hid hJ
  clear hJ
  obtain ⟨w0, hw0⟩ : ∃ w0, w.alloc (.cells #[.int .u8 (kind : Int), .int .i64 a, .int .i64 b, .int .u8 (op : Int)] 62) = w0 := ⟨_, rfl⟩
  have B0 : Below w.heap.size w w0 := by rw [← hw0]; exact (Below.refl _ _).alloc (Nat.le_refl _) _
  have z0 : w.heap.size < w0.heap.size := by rw [← hw0]; simp
  have hbox : ∀ (s' : St) (wr : World), Upd w0 B bb x s' wr → wr.cell? ⟨w.heap.size, 0, none⟩ = some (.int .u8 (kind : Int)) ∧ wr.cell? ⟨w.heap.size, 1, none⟩ = some (.int .i64 a) ∧ wr.cell? ⟨w.heap.size, 2, none⟩ = some (.int .i64 b) ∧ wr.cell? ⟨w.heap.size, 3, none⟩ = some (.int .u8 (op : Int)) ∧ w.heap.size < wr.heap.size := fun s' wr u => by
    rw [← hw0] at u
    exact ⟨Upd.box h u (by simp), Upd.box h u (by simp), Upd.box h u (by simp), Upd.box h u (by simp), by have := u.size; simp at this; omega⟩
  have HBOX := Lib.hid hbox
  have HB0 := Lib.hid B0
  have HI0 := Lib.hid hI
  have HU0 := Lib.hid (Upd.same (h.later B0))
  have HW := Lib.hid hw0
  obtain ⟨y0, y1, y2, y3, y4⟩ := hbox _ _ HU0.out
  have HH := Lib.hid h
  clear hbox h hI B0 hw0
  obtain ⟨l0, hl0⟩ : ∃ l0, s.opens = l0 ++ [bl] := by
    rcases List.eq_nil_or_concat s.opens with he | ⟨l0, z, he⟩
    · rw [he] at h0; cases h0
    · rw [List.concat_eq_append] at he
      rw [he] at h0
      simp at h0
      subst h0
      exact ⟨l0, he⟩
  obtain ⟨o1, o2⟩ := HI0.out.os bl (last_mem h0)
  have HA0 := Lib.hid (HH.out.later HB0.out)
  obtain ⟨g, cap, hv, hcap, hgl, d0, d1, d2, _⟩ := HA0.out.lastOpen hl0
  obtain ⟨q1, q2, q3⟩ := HI0.out.bounds (by omega)
  have hll : l0.length < 1000000 := by rw [hl0] at q3; simp at q3; omega
  have hce := (show PAt w0 B bb ⟨x.cv, x.sv, x.ov⟩ s from HA0.out).cells.2.2
  rw [hv] at hce
  have hbl := HA0.out.lt
  have hwl : IntKind.i64.wrap (l0.length : Int) = (l0.length : Int) := IntWalk.i64_in _ (by omega)
  have hi0 : (0 : Int) ≤ (l0.length : Int) := by omega
  have hi1 : (l0.length : Int) < (l0.length : Int) + 1 := by omega
  have hres : bl.res < 256 := by omega
  have HOL := Lib.hid hl0
  have HTOP := Lib.hid (top_of h0).symm
  have H0 := Lib.hid h0
  clear hl0 hv q1 q2 q3 h0
  have hki : (kind : Int) % 16 = 13 := by omega
  have hpi : (op : Int) % 2 = 1 := by omega
  have t4 : (bl.op == 4) = false := beq_eq_false_iff_ne.2 h4
  have H4 := Lib.hid h4
  clear h4
  go_enter Tryz.func14, Tryz.ntmps14
  have hw0 := HW.out
  go_upto_region 1 with fail
  clear hw0
  go_wp2_with fail
  go_region
  all_goals
    go_upto_region 66 with fail
    obtain ⟨W1, hW1⟩ : ∃ W1, (w0.alloc (.cells #[.int .i64 bl.op, .int .u8 (bl.res : Int), .int .i64 (bl.height : Int)] 65)).drew = W1 := ⟨_, rfl⟩
    have B1 : Below w0.heap.size w0 W1 := by rw [← hW1]; exact ((Below.refl _ _).alloc (Nat.le_refl _) _).drew
    have z1 : w0.heap.size < W1.heap.size := by rw [← hW1]; show _ < (w0.alloc _).heap.size; simp
    have v0 : W1.cell? ⟨w0.heap.size, 0, none⟩ = some (.int .i64 bl.op) := by rw [← hW1]; show (w0.alloc _).cell? _ = _; simp
    have v1 : W1.cell? ⟨w0.heap.size, 1, none⟩ = some (.int .u8 (bl.res : Int)) := by rw [← hW1]; show (w0.alloc _).cell? _ = _; simp
    have v2 : W1.cell? ⟨w0.heap.size, 2, none⟩ = some (.int .i64 (bl.height : Int)) := by rw [← hW1]; show (w0.alloc _).cell? _ = _; simp
    rw [hW1]
    have HB1 := Lib.hid B1
    have HU1 := Lib.hid (Upd.below HA0.out B1)
    clear hW1 hce d0 d1 d2 B1 y0 y1 y2 y3 y4
    obtain ⟨y0, y1, y2, y3, y4⟩ := HBOX.out _ _ HU1.out
    go_wp2_with fail
    refine (shut_any bl W1 B bb x s n HI0.out (by omega) (HA0.out.later HB1.out) (Nat.le_trans hB (Nat.le_trans HB0.out.size HB1.out.size)) H0.out).mono ?_
    rintro e2 w2 ⟨rfl, u2⟩
    have HU2 := Lib.hid (Upd.after HB1.out u2)
    clear u2 y0 y1 y2 y3 y4 v0 v1 v2
    go_wp2_with fail
    go_end0
    refine ⟨rfl, ?_⟩
    have hJ : doesP s ⟨kind, a, b, op⟩ = shutP s bl := by
      simp [doesP, hk, H0.out, H4.out, hp]
    rw [← HJ.out, hJ]
    exact Upd.after HB0.out HU2.out
set_option maxRecDepth 100000 in
set_option maxHeartbeats 4000000 in
theorem does_13_else (kind : Nat) (a b : Int) (op : Nat) (w : World) (B bb : Nat) (x : Px) (s : St) (n : Nat) (hI : Inv s n) (hn : n ≤ 700000) (h : PAt w B bb x s) (hB : B ≤ w.heap.size) (hkd : kind < 256) (hop : op < 256) (hk : kind % 16 = 13) (hp : op % 2 = 0) (bl : Opn) (h0 : s.opens.getLast? = some bl) (h4 : bl.op = 4) :
    Calls Tryz.prog 14 #[.pointer (some ⟨bb, 0, none⟩), .agg #[.int .u8 (kind : Int), .int .i64 a, .int .i64 b, .int .u8 (op : Int)]] w fun e w' => e = .returned (.tuple #[]) ∧ Upd w B bb x (doesP s ⟨kind, a, b, op⟩) w' := by
  obtain ⟨J, hJ⟩ : ∃ J, doesP s ⟨kind, a, b, op⟩ = J := ⟨_, rfl⟩
  rw [hJ]
  have HJ := Lib.hid hJ
  clear hJ
  obtain ⟨w0, hw0⟩ : ∃ w0, w.alloc (.cells #[.int .u8 (kind : Int), .int .i64 a, .int .i64 b, .int .u8 (op : Int)] 62) = w0 := ⟨_, rfl⟩
  have B0 : Below w.heap.size w w0 := by rw [← hw0]; exact (Below.refl _ _).alloc (Nat.le_refl _) _
  have z0 : w.heap.size < w0.heap.size := by rw [← hw0]; simp
  have hbox : ∀ (s' : St) (wr : World), Upd w0 B bb x s' wr → wr.cell? ⟨w.heap.size, 0, none⟩ = some (.int .u8 (kind : Int)) ∧ wr.cell? ⟨w.heap.size, 1, none⟩ = some (.int .i64 a) ∧ wr.cell? ⟨w.heap.size, 2, none⟩ = some (.int .i64 b) ∧ wr.cell? ⟨w.heap.size, 3, none⟩ = some (.int .u8 (op : Int)) ∧ w.heap.size < wr.heap.size := fun s' wr u => by
    rw [← hw0] at u
    exact ⟨Upd.box h u (by simp), Upd.box h u (by simp), Upd.box h u (by simp), Upd.box h u (by simp), by have := u.size; simp at this; omega⟩
  have HBOX := Lib.hid hbox
  have HB0 := Lib.hid B0
  have HI0 := Lib.hid hI
  have HU0 := Lib.hid (Upd.same (h.later B0))
  have HW := Lib.hid hw0
  obtain ⟨y0, y1, y2, y3, y4⟩ := hbox _ _ HU0.out
  have HH := Lib.hid h
  clear hbox h hI B0 hw0
  obtain ⟨l0, hl0⟩ : ∃ l0, s.opens = l0 ++ [bl] := by
    rcases List.eq_nil_or_concat s.opens with he | ⟨l0, z, he⟩
    · rw [he] at h0; cases h0
    · rw [List.concat_eq_append] at he
      rw [he] at h0
      simp at h0
      subst h0
      exact ⟨l0, he⟩
  obtain ⟨o1, o2⟩ := HI0.out.os bl (last_mem h0)
  have HA0 := Lib.hid (HH.out.later HB0.out)
  obtain ⟨g, cap, hv, hcap, hgl, d0, d1, d2, _⟩ := HA0.out.lastOpen hl0
  obtain ⟨q1, q2, q3⟩ := HI0.out.bounds (by omega)
  have hll : l0.length < 1000000 := by rw [hl0] at q3; simp at q3; omega
  have hce := (show PAt w0 B bb ⟨x.cv, x.sv, x.ov⟩ s from HA0.out).cells.2.2
  rw [hv] at hce
  have hbl := HA0.out.lt
  have hwl : IntKind.i64.wrap (l0.length : Int) = (l0.length : Int) := IntWalk.i64_in _ (by omega)
  have hi0 : (0 : Int) ≤ (l0.length : Int) := by omega
  have hi1 : (l0.length : Int) < (l0.length : Int) + 1 := by omega
  have hres : bl.res < 256 := by omega
  have HOL := Lib.hid hl0
  have HTOP := Lib.hid (top_of h0).symm
  have H0 := Lib.hid h0
  clear hl0 hv q1 q2 q3 h0
  have hki : (kind : Int) % 16 = 13 := by omega
  have hpi : (op : Int) % 2 = 0 := by omega
  have t4 : (bl.op == 4) = true := by rw [h4]; rfl
  have H4 := Lib.hid h4
  clear h4
  go_enter Tryz.func14, Tryz.ntmps14
  have hw0 := HW.out
  go_upto_region 1 with fail
  clear hw0
  go_wp2_with fail
  go_region
  all_goals
    go_upto_region 66 with fail
    obtain ⟨W1, hW1⟩ : ∃ W1, (w0.alloc (.cells #[.int .i64 bl.op, .int .u8 (bl.res : Int), .int .i64 (bl.height : Int)] 65)).drew = W1 := ⟨_, rfl⟩
    have B1 : Below w0.heap.size w0 W1 := by rw [← hW1]; exact ((Below.refl _ _).alloc (Nat.le_refl _) _).drew
    have z1 : w0.heap.size < W1.heap.size := by rw [← hW1]; show _ < (w0.alloc _).heap.size; simp
    have v0 : W1.cell? ⟨w0.heap.size, 0, none⟩ = some (.int .i64 bl.op) := by rw [← hW1]; show (w0.alloc _).cell? _ = _; simp
    have v1 : W1.cell? ⟨w0.heap.size, 1, none⟩ = some (.int .u8 (bl.res : Int)) := by rw [← hW1]; show (w0.alloc _).cell? _ = _; simp
    have v2 : W1.cell? ⟨w0.heap.size, 2, none⟩ = some (.int .i64 (bl.height : Int)) := by rw [← hW1]; show (w0.alloc _).cell? _ = _; simp
    rw [hW1]
    have HB1 := Lib.hid B1
    have HU1 := Lib.hid (Upd.below HA0.out B1)
    clear hW1 hce d0 d1 d2 B1 y0 y1 y2 y3 y4
    obtain ⟨y0, y1, y2, y3, y4⟩ := HBOX.out _ _ HU1.out
    go_wp2_with fail
    refine (level_any bl W1 B bb x s n HI0.out (by omega) (HA0.out.later HB1.out) (Nat.le_trans hB (Nat.le_trans HB0.out.size HB1.out.size)) o2 HTOP.out).mono ?_
    rintro e2 w2 ⟨rfl, u2⟩
    have HU2 := Lib.hid (Upd.after HB1.out u2)
    have HL := Lib.hid (HI0.out.level o2 HTOP.out)
    clear u2 y0 y1 y2 y3 y4 v0 v1 v2
    obtain ⟨x2, hA2, hf2, hk2⟩ := HU2.out
    have HP := Lib.hid (put_any 5 0 0 w2 B bb x2 _ hA2 (Nat.le_trans hB (Nat.le_trans HB0.out.size hk2.size)) (by have := HL.out.size; omega))
    have HF2 := Lib.hid hf2
    have HK2 := Lib.hid hk2
    clear hA2 hf2 hk2
    go_wp2_with fail
    refine HP.out.mono ?_
    rintro e3 w3 ⟨rfl, u3⟩
    have HU3 := Lib.hid (Upd.trans HF2.out HK2.out u3)
    clear u3 HP
    obtain ⟨x3, hA3, hf3, hk3⟩ := HU3.out
    have hop3 : (putP (levelP s bl) 5 0 0).opens = l0 ++ [bl] := by show (levelP s bl).opens = _; rw [level_opens, HOL.out]
    obtain ⟨g3, cap3, hv3, hcap3, hgl3, k0, _, _, kz⟩ := hA3.lastOpen hop3
    have hce3 := (show PAt w3 B bb ⟨x3.cv, x3.sv, x3.ov⟩ _ from hA3).cells.2.2
    rw [hv3] at hce3
    have hz3 := kz (l0.length * 3)
    have hst := hA3.inOpe (g := g3) (by rw [hv3]; rfl) (l := l0 ++ [{ bl with op := 5 }]) (j := l0.length * 3) (u := .int .i64 5) (by rw [hop3]; simp) (by
      rw [hop3, openV_snoc, openV_snoc, List.set_append_right _ _ (by rw [openV_length]; exact Nat.le_refl _), openV_length]
      simp [Opn.cells])
    have HU4 := Lib.hid (Upd.trans hf3 hk3 hst)
    have hbl3 := hA3.lt
    clear hA3 hf3 hk3 hv3 hst kz hop3
    go_wp2_with fail
    go_still_tail 12, (by kernel_rfl)
    change wpList _ _ _ _ _ w3.drew
    have k0d : w3.drew.cell? ⟨g3, l0.length * 3, none⟩ = some (.int .i64 bl.op) := k0
    have fzd : w3.drew.frozen? ⟨g3, l0.length * 3, none⟩ = false := hz3
    go_wp2_with fail
    go_end0
    refine ⟨rfl, ?_⟩
    have hJ : doesP s ⟨kind, a, b, op⟩ = elseP s bl := by
      simp [doesP, hk, H0.out, H4.out, hp]
    have hE : elseP s bl = { putP (levelP s bl) 5 0 0 with opens := l0 ++ [{ bl with op := 5 }] } := by
      unfold elseP putP
      dsimp only
      rw [level_opens, HOL.out, List.dropLast_concat]
    rw [← HJ.out, hJ, hE]
    exact Upd.after HB0.out (HU4.out.then_ (Below.refl _ _).drew)
theorem does_any (t : Step) (w : World) (B bb : Nat) (x : Px) (s : St) (n : Nat) (hI : Inv s n) (hn : n ≤ 700000) (h : PAt w B bb x s) (hB : B ≤ w.heap.size) (hkd : t.kind < 256) (hop : t.op < 256) :
    Calls Tryz.prog 14 #[.pointer (some ⟨bb, 0, none⟩), .agg #[.int .u8 (t.kind : Int), .int .i64 t.a, .int .i64 t.b, .int .u8 (t.op : Int)]] w fun e w' => e = .returned (.tuple #[]) ∧ Upd w B bb x (doesP s t) w' := by
  obtain ⟨kind, a, b, op⟩ := t
  have hkd : kind < 256 := hkd
  have hop : op < 256 := hop
  rcases (show kind % 16 = 0 ∨ kind % 16 = 1 ∨ kind % 16 = 2 ∨ kind % 16 = 3 ∨ kind % 16 = 4 ∨ kind % 16 = 5 ∨ kind % 16 = 6 ∨ kind % 16 = 7 ∨ kind % 16 = 8 ∨ kind % 16 = 9 ∨ kind % 16 = 10 ∨ kind % 16 = 11 ∨ kind % 16 = 12 ∨ kind % 16 = 13 ∨ kind % 16 = 14 ∨ kind % 16 = 15 by omega) with hk | hk | hk | hk | hk | hk | hk | hk | hk | hk | hk | hk | hk | hk | hk | hk
  · rcases (show op % 2 = 0 ∨ op % 2 = 1 by omega) with hp | hp
    · exact does_0_0 kind a b op w B bb x s n hI hn h hB hkd hop hk hp
    · exact does_0_1 kind a b op w B bb x s n hI hn h hB hkd hop hk hp
  · rcases (show op % 2 = 0 ∨ op % 2 = 1 by omega) with hp | hp
    · exact does_1_0 kind a b op w B bb x s n hI hn h hB hkd hop hk hp
    · exact does_1_1 kind a b op w B bb x s n hI hn h hB hkd hop hk hp
  · rcases (show op % 2 = 0 ∨ op % 2 = 1 by omega) with hp | hp
    · exact does_2_0 kind a b op w B bb x s n hI hn h hB hkd hop hk hp
    · exact does_2_1 kind a b op w B bb x s n hI hn h hB hkd hop hk hp
  · rcases (show op % 2 = 0 ∨ op % 2 = 1 by omega) with hp | hp
    · exact does_3_0 kind a b op w B bb x s n hI hn h hB hkd hop hk hp
    · exact does_3_1 kind a b op w B bb x s n hI hn h hB hkd hop hk hp
  · rcases (show op % 2 = 0 ∨ op % 2 = 1 by omega) with hp | hp
    · exact does_4_0 kind a b op w B bb x s n hI hn h hB hkd hop hk hp
    · exact does_4_1 kind a b op w B bb x s n hI hn h hB hkd hop hk hp
  · rcases (show op % 4 = 0 ∨ op % 4 = 1 ∨ op % 4 = 2 ∨ op % 4 = 3 by omega) with hp | hp | hp | hp
    · exact does_5_0 kind a b op w B bb x s n hI hn h hB hkd hop hk hp
    · exact does_5_1 kind a b op w B bb x s n hI hn h hB hkd hop hk hp
    · exact does_5_2 kind a b op w B bb x s n hI hn h hB hkd hop hk hp
    · exact does_5_3 kind a b op w B bb x s n hI hn h hB hkd hop hk hp
  · rcases (show op % 4 = 0 ∨ op % 4 = 1 ∨ op % 4 = 2 ∨ op % 4 = 3 by omega) with hp | hp | hp | hp
    · exact does_6_0 kind a b op w B bb x s n hI hn h hB hkd hop hk hp
    · exact does_6_1 kind a b op w B bb x s n hI hn h hB hkd hop hk hp
    · exact does_6_2 kind a b op w B bb x s n hI hn h hB hkd hop hk hp
    · exact does_6_3 kind a b op w B bb x s n hI hn h hB hkd hop hk hp
  · rcases (show op % 4 = 0 ∨ op % 4 = 1 ∨ op % 4 = 2 ∨ op % 4 = 3 by omega) with hp | hp | hp | hp
    · exact does_7_0 kind a b op w B bb x s n hI hn h hB hkd hop hk hp
    · exact does_7_1 kind a b op w B bb x s n hI hn h hB hkd hop hk hp
    · exact does_7_2 kind a b op w B bb x s n hI hn h hB hkd hop hk hp
    · exact does_7_3 kind a b op w B bb x s n hI hn h hB hkd hop hk hp
  · rcases (show op % 2 = 0 ∨ op % 2 = 1 by omega) with hp | hp
    · exact does_8_0 kind a b op w B bb x s n hI hn h hB hkd hop hk hp
    · exact does_8_1 kind a b op w B bb x s n hI hn h hB hkd hop hk hp
  · rcases (show op % 2 = 0 ∨ op % 2 = 1 by omega) with hp | hp
    · exact does_9_0 kind a b op w B bb x s n hI hn h hB hkd hop hk hp
    · exact does_9_1 kind a b op w B bb x s n hI hn h hB hkd hop hk hp
  · rcases (show op % 2 = 0 ∨ op % 2 = 1 by omega) with hp | hp
    · exact does_10_0 kind a b op w B bb x s n hI hn h hB hkd hop hk hp
    · exact does_10_1 kind a b op w B bb x s n hI hn h hB hkd hop hk hp
  · rcases (show op / 2 % 3 = 0 ∨ op / 2 % 3 = 1 ∨ op / 2 % 3 = 2 by omega) with hr | hr | hr
    · exact does_11_0 kind a b op w B bb x s n hI hn h hB hkd hop hk _ rfl hr
    · exact does_11_1 kind a b op w B bb x s n hI hn h hB hkd hop hk _ rfl hr
    · exact does_11_2 kind a b op w B bb x s n hI hn h hB hkd hop hk _ rfl hr
  · rcases (show op % 2 = 0 ∨ op % 2 = 1 by omega) with hp | hp
    · exact does_12_0 kind a b op w B bb x s n hI hn h hB hkd hop hk hp
    · exact does_12_1 kind a b op w B bb x s n hI hn h hB hkd hop hk hp
  · cases h0 : s.opens.getLast? with
    | none =>
      have h1 := List.getLast?_eq_none_iff.1 h0
      rcases (show op % 2 = 0 ∨ op % 2 = 1 by omega) with hp | hp
      · exact does_13_none_0 kind a b op w B bb x s n hI hn h hB hkd hop hk hp h1
      · exact does_13_none_1 kind a b op w B bb x s n hI hn h hB hkd hop hk hp h1
    | some bl =>
      by_cases h4 : bl.op = 4
      · rcases (show op % 2 = 0 ∨ op % 2 = 1 by omega) with hp | hp
        · exact does_13_else kind a b op w B bb x s n hI hn h hB hkd hop hk hp bl h0 h4
        · exact does_13_shut_1_if kind a b op w B bb x s n hI hn h hB hkd hop hk hp bl h0 h4
      · rcases (show op % 2 = 0 ∨ op % 2 = 1 by omega) with hp | hp
        · exact does_13_shut_0 kind a b op w B bb x s n hI hn h hB hkd hop hk hp bl h0 h4
        · exact does_13_shut_1 kind a b op w B bb x s n hI hn h hB hkd hop hk hp bl h0 h4
  · rcases (show op % 2 = 0 ∨ op % 2 = 1 by omega) with hp | hp
    · exact does_14_0 kind a b op w B bb x s n hI hn h hB hkd hop hk hp
    · exact does_14_1 kind a b op w B bb x s n hI hn h hB hkd hop hk hp
  · rcases (show op % 2 = 0 ∨ op % 2 = 1 by omega) with hp | hp
    · rcases (show op % 3 = 0 ∨ op % 3 = 1 ∨ op % 3 = 2 by omega) with hr | hr | hr
      · exact does_15_0_0 kind a b op w B bb x s n hI hn h hB hkd hop hk hp hr
      · exact does_15_0_1 kind a b op w B bb x s n hI hn h hB hkd hop hk hp hr
      · exact does_15_0_2 kind a b op w B bb x s n hI hn h hB hkd hop hk hp hr
    · rcases (show op % 3 = 0 ∨ op % 3 = 1 ∨ op % 3 = 2 by omega) with hr | hr | hr
      · exact does_15_1_0 kind a b op w B bb x s n hI hn h hB hkd hop hk hp hr
      · exact does_15_1_1 kind a b op w B bb x s n hI hn h hB hkd hop hk hp hr
      · exact does_15_1_2 kind a b op w B bb x s n hI hn h hB hkd hop hk hp hr
end Go.Proofs.YtofepnojhghnnaaGreatDoor.Pg
