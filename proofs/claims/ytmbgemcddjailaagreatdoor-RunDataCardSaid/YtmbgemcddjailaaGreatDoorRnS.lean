/-
  RunS, RunAcc, RunT, RunU, RunV in one.
-/
import Derived.Test.YtmbgemcddjailaaGreatDoorRnD
import Derived.OwnWalk
import Derived.Deep.LoopGhost
import Derived.Test.YtmbgemcddjailaaGreatDoorOpW
import Derived.Test.YtmbgemcddjailaaGreatDoorRnM
/- RunS: What Global, Memory, Find answer; a function without blocks. No condition beyond what each theorem names. -/
namespace Go.Proofs.YtmbgemcddjailaaGreatDoor.Run
open Go.RowKit Go.Maps Go.Proofs.YtmbgemcddjailaaGreatDoor.Op Go.Proofs.YtmbgemcddjailaaGreatDoor.Mod
set_option linter.unusedVariables false
set_option linter.unusedSimpArgs false
variable {w : World} {B : Nat} {K : Mk} {gs : List Nat}
set_option maxRecDepth 100000 in
theorem global_any (h : MAt w B K gs) (k n : Nat) (hk : gs[k]? = some n) (hl : gs.length ≤ 1000000) :
    Calls Tryz.prog 8 #[.pointer (some ⟨K.R, 0, none⟩), .int .i64 (k : Int)] w fun e w' => e = .returned (.tuple #[.int .u64 (n : Int), .bool true]) ∧ Below w.heap.size w w' := by
  have hlt := (List.getElem?_eq_some_iff.1 hk).1
  obtain ⟨a, cap, hx, hcap, hform⟩ := nats_form h.glob
  obtain ⟨gb, rfl, _, _, hat, _⟩ := hform (by omega)
  have c8 := h.cells.2.2.2.2.2.2.2.2.1
  rw [hx] at c8
  have ct := hat k n hk
  have d1 : decide ((k : Int) < 0) = false := decide_eq_false (by omega)
  have d2 : decide (gs.length ≤ k) = false := decide_eq_false (by omega)
  have hi0 : (0 : Int) ≤ (k : Int) := by omega
  have hi1 : (k : Int) < (gs.length : Int) := by omega
  clear h hx hform hat hk
  go_enter Tryz.func8, Tryz.ntmps8
  go_wp2_with fail
  go_ret2
  exact ⟨rfl, Below.refl _ _⟩
set_option maxRecDepth 100000 in
theorem memory_any (h : MAt w B K gs) :
    Calls Tryz.prog 9 #[.pointer (some ⟨K.R, 0, none⟩)] w fun e w' => e = .returned K.mp ∧ Below w.heap.size w w' := by
  have c7 := h.cells.2.2.2.2.2.2.2.1
  clear h
  go_enter Tryz.func9, Tryz.ntmps9
  go_wp2_with fail
  go_ret
  exact ⟨rfl, Below.refl _ _⟩
set_option maxRecDepth 100000 in
set_option maxHeartbeats 2000000 in
theorem find_one (h : MAt w B K gs) (nm : ByteArray) (kind idx : Int) (hx : K.m.exports = [⟨nm, kind, idx⟩]) :
    Calls Tryz.prog 12 #[.pointer (some ⟨K.R, 0, none⟩), .string nm] w fun e w' => e = .returned (.tuple #[.int .i64 kind, .int .i64 idx, .bool true]) ∧ Below w.heap.size w w' := by
  obtain ⟨ea, ec, hev, _, heat⟩ := h.mod.exports.form
  obtain ⟨r, ⟨hr, _⟩, _, eb, eo, hea, heb, hec⟩ := heat 0 ⟨nm, kind, idx⟩ (by rw [hx]; rfl)
  subst hea
  rw [hr] at hec
  have k0 : w.cell? ⟨eb, eo, none⟩ = some (.string nm) := by have := cell_later h.old (hec 0 _ rfl); simpa using this
  have k1 : w.cell? ⟨eb, eo + 1, none⟩ = some (.int .i64 kind) := by have := cell_later h.old (hec 1 _ rfl); simpa using this
  have k2 : w.cell? ⟨eb, eo + 2, none⟩ = some (.int .i64 idx) := by have := cell_later h.old (hec 2 _ rfl); simpa using this
  have c4 := h.cells.2.2.2.2.1
  rw [hev, hx] at c4
  have hnm : (nm.toList == nm.toList) = true := by simp
  clear h hev heat hec hr hx
  go_enter Tryz.func12, Tryz.ntmps12
  go_wp2_with fail
  refine wp_loop_rounds 1 ?_
  rw [rounds_succ]
  go_wp2_with fail
  go_quiet (fail)
  go_wp2_with fail
  go_ret3
  exact ⟨rfl, ((Below.refl w.heap.size w).alloc (Nat.le_refl _) _).trans ⟨rfl, rfl, rfl, Nat.le_refl _, fun _ _ => rfl⟩⟩
end Go.Proofs.YtmbgemcddjailaaGreatDoor.Run

/- RunAcc: What accesses answers: the map of all memory instructions. No condition beyond what each theorem names. -/
namespace Go.Proofs.YtmbgemcddjailaaGreatDoor.Run
open Go.RowKit Go.Maps Go.Proofs.YtmbgemcddjailaaGreatDoor.Op
set_option linter.unusedVariables false
def accL : List (Int × Value) := [(40, .agg #[.int .i64 4, .bool false, .bool true]), (41, .agg #[.int .i64 8, .bool false, .bool false]), (44, .agg #[.int .i64 1, .bool true, .bool true]), (45, .agg #[.int .i64 1, .bool false, .bool true]), (46, .agg #[.int .i64 2, .bool true, .bool true]), (47, .agg #[.int .i64 2, .bool false, .bool true]), (48, .agg #[.int .i64 1, .bool true, .bool false]), (49, .agg #[.int .i64 1, .bool false, .bool false]), (50, .agg #[.int .i64 2, .bool true, .bool false]), (51, .agg #[.int .i64 2, .bool false, .bool false]), (52, .agg #[.int .i64 4, .bool true, .bool false]), (53, .agg #[.int .i64 4, .bool false, .bool false]), (54, .agg #[.int .i64 4, .bool false, .bool true]), (55, .agg #[.int .i64 8, .bool false, .bool false]), (58, .agg #[.int .i64 1, .bool false, .bool true]), (59, .agg #[.int .i64 2, .bool false, .bool true]), (60, .agg #[.int .i64 1, .bool false, .bool false]), (61, .agg #[.int .i64 2, .bool false, .bool false]), (62, .agg #[.int .i64 4, .bool false, .bool false])]
def putA (D : DataW Value) (e : Int × Value) : DataW Value := D.put (.int .i64 e.1) (.held e.2)
def accD : DataW Value := accL.foldl putA (.map [])
set_option maxRecDepth 100000 in
set_option maxHeartbeats 4000000 in
theorem accesses_any (w : World) : Calls Tryz.prog 15 #[] w fun e w' => ∃ b, e = .returned (.map (some b)) ∧ w'.ownsMap Tryz.prog 3 asIs b 19 accD ∧ w.heap.size ≤ b ∧ Below w.heap.size w w' := by
  have hmm := @run_makeMap Tryz.prog
  have h0 := World.ownsMap_made w Tryz.prog 3 asIs
  have b0 : Below w.heap.size w (w.alloc (.map #[] 0)) := (Below.refl _ _).alloc (Nat.le_refl _) _
  go_enter Tryz.func15, Tryz.ntmps15
  go_wp2_with fail
  obtain ⟨w1, hrun, h1, g1⟩ := h0.update (val := .agg #[.int .i64 4, .bool false, .bool true]) keyed_int Tryz.underlying69 (by decide) (key_int 40 (by decide)) rfl
  have b1 := b0.grown g1 (by have := b0.size; omega) (fun k hk => by cases hk; exact Nat.le_refl _)
  clear h0 g1 b0
  rw [hrun]
  clear hrun
  go_wp2_with fail
  obtain ⟨w2, hrun, h2, g2⟩ := h1.update (val := .agg #[.int .i64 8, .bool false, .bool false]) keyed_int Tryz.underlying69 (by decide) (key_int 41 (by decide)) rfl
  have b2 := b1.grown g2 (by have := b1.size; omega) (fun k hk => by cases hk; exact Nat.le_refl _)
  clear h1 g2 b1
  rw [hrun]
  clear hrun
  go_wp2_with fail
  obtain ⟨w3, hrun, h3, g3⟩ := h2.update (val := .agg #[.int .i64 1, .bool true, .bool true]) keyed_int Tryz.underlying69 (by decide) (key_int 44 (by decide)) rfl
  have b3 := b2.grown g3 (by have := b2.size; omega) (fun k hk => by cases hk; exact Nat.le_refl _)
  clear h2 g3 b2
  rw [hrun]
  clear hrun
  go_wp2_with fail
  obtain ⟨w4, hrun, h4, g4⟩ := h3.update (val := .agg #[.int .i64 1, .bool false, .bool true]) keyed_int Tryz.underlying69 (by decide) (key_int 45 (by decide)) rfl
  have b4 := b3.grown g4 (by have := b3.size; omega) (fun k hk => by cases hk; exact Nat.le_refl _)
  clear h3 g4 b3
  rw [hrun]
  clear hrun
  go_wp2_with fail
  obtain ⟨w5, hrun, h5, g5⟩ := h4.update (val := .agg #[.int .i64 2, .bool true, .bool true]) keyed_int Tryz.underlying69 (by decide) (key_int 46 (by decide)) rfl
  have b5 := b4.grown g5 (by have := b4.size; omega) (fun k hk => by cases hk; exact Nat.le_refl _)
  clear h4 g5 b4
  rw [hrun]
  clear hrun
  go_wp2_with fail
  obtain ⟨w6, hrun, h6, g6⟩ := h5.update (val := .agg #[.int .i64 2, .bool false, .bool true]) keyed_int Tryz.underlying69 (by decide) (key_int 47 (by decide)) rfl
  have b6 := b5.grown g6 (by have := b5.size; omega) (fun k hk => by cases hk; exact Nat.le_refl _)
  clear h5 g6 b5
  rw [hrun]
  clear hrun
  go_wp2_with fail
  obtain ⟨w7, hrun, h7, g7⟩ := h6.update (val := .agg #[.int .i64 1, .bool true, .bool false]) keyed_int Tryz.underlying69 (by decide) (key_int 48 (by decide)) rfl
  have b7 := b6.grown g7 (by have := b6.size; omega) (fun k hk => by cases hk; exact Nat.le_refl _)
  clear h6 g7 b6
  rw [hrun]
  clear hrun
  go_wp2_with fail
  obtain ⟨w8, hrun, h8, g8⟩ := h7.update (val := .agg #[.int .i64 1, .bool false, .bool false]) keyed_int Tryz.underlying69 (by decide) (key_int 49 (by decide)) rfl
  have b8 := b7.grown g8 (by have := b7.size; omega) (fun k hk => by cases hk; exact Nat.le_refl _)
  clear h7 g8 b7
  rw [hrun]
  clear hrun
  go_wp2_with fail
  obtain ⟨w9, hrun, h9, g9⟩ := h8.update (val := .agg #[.int .i64 2, .bool true, .bool false]) keyed_int Tryz.underlying69 (by decide) (key_int 50 (by decide)) rfl
  have b9 := b8.grown g9 (by have := b8.size; omega) (fun k hk => by cases hk; exact Nat.le_refl _)
  clear h8 g9 b8
  rw [hrun]
  clear hrun
  go_wp2_with fail
  obtain ⟨w10, hrun, h10, g10⟩ := h9.update (val := .agg #[.int .i64 2, .bool false, .bool false]) keyed_int Tryz.underlying69 (by decide) (key_int 51 (by decide)) rfl
  have b10 := b9.grown g10 (by have := b9.size; omega) (fun k hk => by cases hk; exact Nat.le_refl _)
  clear h9 g10 b9
  rw [hrun]
  clear hrun
  go_wp2_with fail
  obtain ⟨w11, hrun, h11, g11⟩ := h10.update (val := .agg #[.int .i64 4, .bool true, .bool false]) keyed_int Tryz.underlying69 (by decide) (key_int 52 (by decide)) rfl
  have b11 := b10.grown g11 (by have := b10.size; omega) (fun k hk => by cases hk; exact Nat.le_refl _)
  clear h10 g11 b10
  rw [hrun]
  clear hrun
  go_wp2_with fail
  obtain ⟨w12, hrun, h12, g12⟩ := h11.update (val := .agg #[.int .i64 4, .bool false, .bool false]) keyed_int Tryz.underlying69 (by decide) (key_int 53 (by decide)) rfl
  have b12 := b11.grown g12 (by have := b11.size; omega) (fun k hk => by cases hk; exact Nat.le_refl _)
  clear h11 g12 b11
  rw [hrun]
  clear hrun
  go_wp2_with fail
  obtain ⟨w13, hrun, h13, g13⟩ := h12.update (val := .agg #[.int .i64 4, .bool false, .bool true]) keyed_int Tryz.underlying69 (by decide) (key_int 54 (by decide)) rfl
  have b13 := b12.grown g13 (by have := b12.size; omega) (fun k hk => by cases hk; exact Nat.le_refl _)
  clear h12 g13 b12
  rw [hrun]
  clear hrun
  go_wp2_with fail
  obtain ⟨w14, hrun, h14, g14⟩ := h13.update (val := .agg #[.int .i64 8, .bool false, .bool false]) keyed_int Tryz.underlying69 (by decide) (key_int 55 (by decide)) rfl
  have b14 := b13.grown g14 (by have := b13.size; omega) (fun k hk => by cases hk; exact Nat.le_refl _)
  clear h13 g14 b13
  rw [hrun]
  clear hrun
  go_wp2_with fail
  obtain ⟨w15, hrun, h15, g15⟩ := h14.update (val := .agg #[.int .i64 1, .bool false, .bool true]) keyed_int Tryz.underlying69 (by decide) (key_int 58 (by decide)) rfl
  have b15 := b14.grown g15 (by have := b14.size; omega) (fun k hk => by cases hk; exact Nat.le_refl _)
  clear h14 g15 b14
  rw [hrun]
  clear hrun
  go_wp2_with fail
  obtain ⟨w16, hrun, h16, g16⟩ := h15.update (val := .agg #[.int .i64 2, .bool false, .bool true]) keyed_int Tryz.underlying69 (by decide) (key_int 59 (by decide)) rfl
  have b16 := b15.grown g16 (by have := b15.size; omega) (fun k hk => by cases hk; exact Nat.le_refl _)
  clear h15 g16 b15
  rw [hrun]
  clear hrun
  go_wp2_with fail
  obtain ⟨w17, hrun, h17, g17⟩ := h16.update (val := .agg #[.int .i64 1, .bool false, .bool false]) keyed_int Tryz.underlying69 (by decide) (key_int 60 (by decide)) rfl
  have b17 := b16.grown g17 (by have := b16.size; omega) (fun k hk => by cases hk; exact Nat.le_refl _)
  clear h16 g17 b16
  rw [hrun]
  clear hrun
  go_wp2_with fail
  obtain ⟨w18, hrun, h18, g18⟩ := h17.update (val := .agg #[.int .i64 2, .bool false, .bool false]) keyed_int Tryz.underlying69 (by decide) (key_int 61 (by decide)) rfl
  have b18 := b17.grown g18 (by have := b17.size; omega) (fun k hk => by cases hk; exact Nat.le_refl _)
  clear h17 g18 b17
  rw [hrun]
  clear hrun
  go_wp2_with fail
  obtain ⟨w19, hrun, h19, g19⟩ := h18.update (val := .agg #[.int .i64 4, .bool false, .bool false]) keyed_int Tryz.underlying69 (by decide) (key_int 62 (by decide)) rfl
  have b19 := b18.grown g19 (by have := b18.size; omega) (fun k hk => by cases hk; exact Nat.le_refl _)
  clear h18 g19 b18
  rw [hrun]
  clear hrun
  go_wp2_with fail
  go_ret
  exact ⟨_, rfl, h19, Nat.le_refl _, b19⟩
end Go.Proofs.YtmbgemcddjailaaGreatDoor.Run

/- RunT: What blocks does with a function without blocks. No condition beyond what each theorem names. -/
namespace Go.Proofs.YtmbgemcddjailaaGreatDoor.Run
open Go.RowKit Go.Maps Go.Proofs.YtmbgemcddjailaaGreatDoor.Op Go.Proofs.YtmbgemcddjailaaGreatDoor.Mod
set_option linter.unusedVariables false
set_option linter.unusedSimpArgs false
/-- no block in it -/
def Flat (code : List InsL) : Prop := ∀ x ∈ code, x.op ≠ 2 ∧ x.op ≠ 3 ∧ x.op ≠ 4 ∧ x.op ≠ 5
set_option maxRecDepth 100000 in
set_option maxHeartbeats 4000000 in
theorem blocks_flat (w : World) (R : Nat) (fv : Value) (fs : List FuncP) (hc : w.cell? ⟨R, 1, none⟩ = some fv) (hfs : FuncsAt w fv fs) (hm : fs.length ≤ 100000) (f : Nat) (F : FuncP) (hF : fs[f]? = some F) (hflat : Flat F.code) (hl : F.code.length ≤ 1000000) :
    Calls Tryz.prog 19 #[.pointer (some ⟨R, 0, none⟩), .int .i64 (f : Int)] w fun e w' => e = .returned (.tuple #[]) ∧ Below w.heap.size w w' := by
  obtain ⟨fa, fc, hfv, _, hfat⟩ := hfs.form
  obtain ⟨rf, ⟨cv, hrf, hcode, _⟩, _, fb, fo, hfa, hfb, hfc⟩ := hfat f F hF
  obtain ⟨ca, cc, hcv, _, hcat⟩ := hcode.form
  subst hfa hcv hfv
  rw [hrf] at hfc
  have hfl := (List.getElem?_eq_some_iff.1 hF).1
  have k2 : w.cell? ⟨fb, fo + f * 3 + 2, none⟩ = some (.slice ca F.code.length cc) := hfc 2 _ rfl
  have hi0 : (0 : Int) ≤ (f : Int) := by omega
  have hi1 : (f : Int) < (fs.length : Int) := by omega
  have HCAT := Lib.hid hcat
  have HFLAT := Lib.hid hflat
  obtain ⟨n, hn⟩ : ∃ n, F.code.length = n := ⟨_, rfl⟩
  rw [hn] at k2 hl
  have HN := Lib.hid hn
  clear hfs hfat hF hrf hcode hfc hcat hflat hn
  go_enter Tryz.func19, Tryz.ntmps19
  go_wp2_with fail
  go_loopw [4, 20] (fun o q wr => o = .slice none 0 0 ∧ ∃ k : Nat, k ≤ n ∧ q = .int .i64 (k : Int) ∧ Below w.heap.size w wr) (fun _ q _ => n - (intOf q).toNat)
  case atStart => exact ⟨rfl, 0, Nat.zero_le _, rfl, Below.refl _ _⟩
  case round =>
    obtain ⟨rfl, k, hk, rfl, hb⟩ := hrel
    have HB := Lib.hid hb
    by_cases hlt : k < n
    · obtain ⟨X, hX⟩ : ∃ X, F.code[k]? = some X := ⟨_, List.getElem?_eq_getElem (by rw [HN.out]; exact hlt)⟩
      obtain ⟨r, ⟨lv, hr, hI, _⟩, _, b, off, rfl, hb2, hcell⟩ := HCAT.out k X hX
      obtain ⟨la, lc, rfl⟩ := intsAt_form hI
      rw [hr] at hcell
      have q0 : wr.cell? ⟨b, off + k * 4, none⟩ = some (.int .i64 X.op) := cell_later hb (hcell 0 _ rfl)
      have q1 : wr.cell? ⟨b, off + k * 4 + 1, none⟩ = some (.int .i64 X.a) := cell_later hb (hcell 1 _ rfl)
      have q2 : wr.cell? ⟨b, off + k * 4 + 2, none⟩ = some (.int .i64 X.b) := cell_later hb (hcell 2 _ rfl)
      have q3 : wr.cell? ⟨b, off + k * 4 + 3, none⟩ = some (.slice la X.labels.length lc) := cell_later hb (hcell 3 _ rfl)
      obtain ⟨f2, f3, f4, f5⟩ := HFLAT.out X (List.mem_of_getElem? hX)
      have t2 : (X.op == 2) = false := beq_eq_false_iff_ne.2 f2
      have t3 : (X.op == 3) = false := beq_eq_false_iff_ne.2 f3
      have t4 : (X.op == 4) = false := beq_eq_false_iff_ne.2 f4
      have t5 : (X.op == 5) = false := beq_eq_false_iff_ne.2 f5
      have hd : decide (k < n) = true := decide_eq_true hlt
      have hk0 : (0 : Int) ≤ (k : Int) := by omega
      have hk1 : (k : Int) < (n : Int) := by omega
      have B2 := Lib.hid (show Below w.heap.size w (wr.alloc (.cells #[.int .i64 X.op, .int .i64 X.a, .int .i64 X.b, .slice la X.labels.length lc] 29)) from hb.alloc hb.size _)
      clear hr hI hcell hX f2 f3 f4 f5 hb
      by_cases h11 : X.op = 11
      · have t11 : (X.op == 11) = true := by rw [h11]; rfl
        clear h11
        go_wp2_with fail
        refine bodyPost_ret (results_none rfl _ _ _) rfl ?_
        exact ⟨rfl, B2.out⟩
      · have t11 : (X.op == 11) = false := beq_eq_false_iff_ne.2 h11
        clear h11
        go_wp2_with fail
        go_roundw
        case rel => exact ⟨rfl, k + 1, by omega, by go_num, B2.out⟩
        case measure => simp [intOf]; omega
    · obtain rfl : k = n := by omega
      have hd : decide (k < k) = false := by simp
      clear hb
      go_wp2_with fail
      go_end0
      exact ⟨rfl, HB.out⟩
end Go.Proofs.YtmbgemcddjailaaGreatDoor.Run

/- RunU: A new memory of one page. No condition beyond what each theorem names. -/
namespace Go.Proofs.YtmbgemcddjailaaGreatDoor.Run
open Go.RowKit Go.Maps Go.Proofs.YtmbgemcddjailaaGreatDoor.Op Go.Proofs.YtmbgemcddjailaaGreatDoor.Mod
set_option linter.unusedVariables false
set_option linter.unusedSimpArgs false
theorem info_page : (Tryz.prog.info? 83).map (fun i => (i.zero, i.size, i.bytes)) = some (some (.slice none 0 0), 1, 24) := by kernel_rfl
set_option maxRecDepth 100000 in
set_option maxHeartbeats 4000000 in
theorem more_one (w : World) (lo mb : Nat) (most : Int) (hbox : w.heap[mb]? = some (.cells #[.slice none 0 0, .int .i64 most] 115 (0, 0))) (hlo : lo ≤ mb) :
    Calls Tryz.prog 41 #[.pointer (some ⟨mb, 0, none⟩), .int .i64 1] w fun e w' => e = .returned (.tuple #[]) ∧ (∃ pb pc, PmAt w' lo mb pb pc (.slice none 0 0) most zeroL) ∧ Keeps (fun j => j = mb) w w' := by
  obtain ⟨i0, hi, hz0, hz1, hz2⟩ := info_of info_page
  have c0 : w.cell? ⟨mb, 0, none⟩ = some (.slice none 0 0) := cell_of_row w mb _ _ _ _ hbox
  have hbl : mb < w.heap.size := (Array.getElem?_eq_some_iff.1 hbox).1
  have HB := Lib.hid hbox
  have C0 := Lib.hid c0
  have HL := Lib.hid (show 0 + 1 ≤ maxLen by unfold maxLen; omega)
  have HY := Lib.hid (show (0 + 1) * 24 ≤ 140737488355328 by omega)
  have HZ := Lib.hid (show ∀ o : Obj, lo ≤ (w.alloc o).heap.size from fun o => by simp; omega)
  have HN := Lib.hid (news_at w #[.slice none 0 0] 83 [.slice none 0 0] rfl)
  clear hbox
  go_enter Tryz.func41, Tryz.ntmps41
  go_wp2_with fail
  refine wp_loop_rounds 2 ?_
  rw [rounds_succ]
  go_wp2_with (at_builtin; refine wpList_append_own2 _ rfl _ _ 113 rfl lo 83 i0 (.slice none 0 0) 1 24 Tryz.underlying113 hi hz0 hz1 hz2 rfl (by decide) (.slice none 0 0) 0 [] rfl (World.ownsRow_nil _ _ _ _) ⟨w.heap.size, 0, none⟩ 1 1 [.slice none 0 0] rfl rfl HN.out (by intro u hu; rw [List.mem_singleton.1 hu]; rfl) (by decide) HL.out HY.out (HZ.out _) ?_)
  intro v' w1 hown hgrow hnb
  obtain ⟨pb, pc, rfl⟩ := Go.Joins.ownsRow_form hown (by omega)
  have hg := grown_alloc hgrow
  have hbx : w1.heap[mb]? = some (.cells #[.slice none 0 0, .int .i64 most] 115 (0, 0)) := (hg.block mb hbl (by simp [Value.ownBlock])).trans HB.out
  have fz1 : w1.frozen? ⟨mb, 0, none⟩ = false := frozen_of_row _ _ _ _ _ hbx
  have cz : w1.cell? ⟨mb, 0, none⟩ = some (.slice none 0 0) := cell_of_row _ _ _ _ _ _ hbx
  have hpm : pb ≠ mb := fun e => kind_ne hown hbx (by decide) (by rw [← e]; rfl)
  obtain ⟨w2, hw2⟩ : ∃ w2, w1.setCell ⟨mb, 0, none⟩ (.slice (some ⟨pb, 0, none⟩) 1 pc) = w2 := ⟨_, rfl⟩
  have hP : PmAt w2 lo mb pb pc (.slice none 0 0) most zeroL := by
    refine ⟨?_, hlo, ?_, .inl ⟨rfl, rfl⟩, zeroL_len⟩
    · rw [← hw2, box_set hbx]; rfl
    · rw [← hw2]
      exact ownsRow_of hown (fun k hk => Below.heap_setCell _ _ _ _ (by
        have e : pb = k := by simpa [Value.ownBlock] using hk
        rw [← e]; exact hpm))
  have HK := Lib.hid (show Keeps (fun j => j = mb) w w2 by
    rw [← hw2]
    exact (Keeps.grown (F := fun j => j = mb) hg (fun k hk => by simp [Value.ownBlock] at hk)).trans (Keeps.setCell (F := fun j => j = mb) _ _ _ rfl) (fun j hj => .inl hj))
  have HP := Lib.hid hP
  have HW2 := Lib.hid hw2
  clear hown hgrow hnb hg hbx hpm hP c0 hw2
  go_wp2_with fail
  rw [rounds_succ]
  go_wp2_with fail
  go_end0
  rw [HW2.out]
  exact ⟨rfl, ⟨pb, pc, HP.out⟩, HK.out⟩
set_option maxRecDepth 100000 in
set_option maxHeartbeats 4000000 in
theorem new_mem (w : World) (most : Int) (hmo : most = -1 ∨ (1 ≤ most ∧ most ≤ 65536)) :
    Calls Tryz.prog 16 #[.int .i64 1, .int .i64 most] w fun e w' => ∃ mb pb pc mx, e = .returned (.tuple #[.pointer (some ⟨mb, 0, none⟩), .int .i64 0]) ∧ PmAt w' w.heap.size mb pb pc (.slice none 0 0) mx zeroL ∧ Below w.heap.size w w' := by
  rcases hmo with rfl | ⟨h1, h2⟩
  · have HM := Lib.hid (more_one (w.alloc (.cells #[.slice none 0 0, .int .i64 256] 115)) w.heap.size w.heap.size 256 (heap_alloc_new _ _) (Nat.le_refl _))
    go_enter Tryz.func16, Tryz.ntmps16
    go_wp2_with fail
    refine HM.out.mono ?_
    rintro e w1 ⟨rfl, ⟨pb, pc, hP⟩, hk⟩
    have HP := Lib.hid hP
    have HB := Lib.hid (show Below w.heap.size w w1 from ((Below.refl _ _).alloc (Nat.le_refl _) _).trans (hk.below (fun j hj => by rw [hj]; exact Nat.le_refl _) (by simp)))
    clear hP hk
    go_wp2_with fail
    go_ret2
    exact ⟨_, pb, pc, _, rfl, HP.out, HB.out⟩
  · obtain ⟨mx, hmx⟩ : ∃ mx, min most 256 = mx := ⟨_, rfl⟩
    have d1 : decide (most < -1) = false := decide_eq_false (by omega)
    have d2 : decide (0 ≤ most) = true := decide_eq_true (by omega)
    have d3 : decide (most < 1) = false := decide_eq_false (by omega)
    have d4 : decide (most < 0) = false := decide_eq_false (by omega)
    have HM := Lib.hid (more_one (w.alloc (.cells #[.slice none 0 0, .int .i64 mx] 115)) w.heap.size w.heap.size mx (heap_alloc_new _ _) (Nat.le_refl _))
    go_enter Tryz.func16, Tryz.ntmps16
    go_wp2_with fail
    refine HM.out.mono ?_
    rintro e w1 ⟨rfl, ⟨pb, pc, hP⟩, hk⟩
    have HP := Lib.hid hP
    have HB := Lib.hid (show Below w.heap.size w w1 from ((Below.refl _ _).alloc (Nat.le_refl _) _).trans (hk.below (fun j hj => by rw [hj]; exact Nat.le_refl _) (by simp)))
    clear hP hk
    go_wp2_with fail
    go_ret2
    exact ⟨_, pb, pc, _, rfl, HP.out, HB.out⟩
end Go.Proofs.YtmbgemcddjailaaGreatDoor.Run

/- RunV: A machine that is being made: its memory, its globals laid. Plain but for the shape of memory. -/
namespace Go.Proofs.YtmbgemcddjailaaGreatDoor.Run
open Go.RowKit Go.Maps Go.Proofs.YtmbgemcddjailaaGreatDoor.Op Go.Proofs.YtmbgemcddjailaaGreatDoor.Mod
set_option linter.unusedVariables false
set_option linter.unusedSimpArgs false
/-- where a datum is laid -/
def offN (z : Int) : Nat := (z % 4294967296).toNat
/-- data laid over one another; none: one has no room -/
def dataL : List DataP → List UInt8 → Option (List UInt8)
  | [], l => some l
  | x :: xs, l => if offN x.offset + x.bytes.size ≤ 65536 then dataL xs (putL l (offN x.offset) x.bytes.data.toList) else none
theorem dataL_snoc : ∀ (xs : List DataP) (l L : List UInt8) (k : Nat) (x : DataP), dataL (xs.take k) l = some L → xs[k]? = some x → dataL (xs.take (k + 1)) l = if offN x.offset + x.bytes.size ≤ 65536 then some (putL L (offN x.offset) x.bytes.data.toList) else none
  | [], _, _, _, _, _, hx => by simp at hx
  | y :: ys, l, L, 0, x, h, hx => by
    simp at hx
    subst hx
    simp [dataL] at h
    subst h
    simp [dataL]
  | y :: ys, l, L, k + 1, x, h, hx => by
    simp only [List.take_succ_cons, dataL] at h ⊢
    split at h
    · rename_i hf
      rw [if_pos hf]
      exact dataL_snoc ys _ L k x h (by simpa using hx)
    · simp at h
theorem dataL_fail : ∀ (xs : List DataP) (l : List UInt8) (k : Nat), dataL (xs.take k) l = none → dataL xs l = none
  | [], l, k, h => by simpa using h
  | y :: ys, l, 0, h => by simp [dataL] at h
  | y :: ys, l, k + 1, h => by
    simp only [List.take_succ_cons, dataL] at h ⊢
    split
    · rename_i hf
      rw [if_pos hf] at h
      exact dataL_fail ys _ k h
    · rfl
/-- the memory of a machine, or none -/
def MemS (W : World) (lo : Nat) (mp : Value) : Option (List UInt8) → Prop
  | none => mp = .pointer none
  | some l => ∃ mb pb pc pv mx, mp = .pointer (some ⟨mb, 0, none⟩) ∧ PmAt W lo mb pb pc pv mx l
theorem MemS.later {W W' : World} {lo : Nat} {mp : Value} {L : Option (List UInt8)} (h : MemS W lo mp L) (hb : Below W.heap.size W W') : MemS W' lo mp L := by
  cases L with
  | none => exact h
  | some l =>
    obtain ⟨mb, pb, pc, pv, mx, h1, h2⟩ := h
    exact ⟨mb, pb, pc, pv, mx, h1, h2.later hb⟩
def globL (m : ModP) : List Nat := m.globals.map fun x => cutP x.ty (x.init % 18446744073709551616).toNat
section
variable {w w' w1 : World} {B lo : Nat} {K : Mk} {gs : List Nat}
theorem MAt.top (h : MAt w B K gs) : MAt w w.heap.size K gs := h.rise h.wB (Nat.le_refl _)
/-- what lies elsewhere has turned -/
theorem MAt.keeps {F : Nat → Prop} (h : MAt w B K gs) (k : Keeps F w w') (hF : ∀ j, F j → K.w0.heap.size ≤ j ∧ j ≠ K.R ∧ K.gv.ownBlock ≠ some j) : MAt w' B K gs := by
  have hR := Nat.lt_of_lt_of_le h.lt.2 h.wB
  exact ⟨(k.block K.R hR (fun hf => (hF _ hf).2.1 rfl)).trans h.box, h.lt, h.mod, h.old.trans (k.below (fun j hj => (hF j hj).1) (by have := h.lt; omega)), ownsRow_of h.glob (fun j hj => k.block j (Nat.lt_of_lt_of_le (h.glt j hj) h.wB) (fun hf => (hF _ hf).2.2 hj)), h.glt, Nat.le_trans h.wB k.size⟩
/-- its memory, laid -/
theorem MAt.setMp (h : MAt w B K gs) (v : Value) : MAt (w.setCell ⟨K.R, 7, none⟩ v) B { K with mp := v } gs := by
  have hne : ∀ j, K.gv.ownBlock = some j → j ≠ K.R := fun j hj e => kind_ne h.glob h.box (by decide) (by rw [← e]; exact hj)
  refine ⟨?_, h.lt, h.mod, h.old.setCell (p := ⟨K.R, 7, none⟩) h.lt.1 _, ownsRow_of h.glob (fun j hj => Below.heap_setCell _ _ _ _ (hne j hj)), h.glt, by rw [show (w.setCell ⟨K.R, 7, none⟩ v).heap.size = w.heap.size by simp [World.setCell]]; exact h.wB⟩
  rw [box_set h.box]
  rfl
/-- its globals, more -/
theorem MAt.setGv (h : MAt w w.heap.size K gs) {v' : Value} {l : List Nat} (g : w.grownBy w1 K.gv.ownBlock) (o : w1.ownsRow K.w0.heap.size 22 1 v' l.length (natsV l)) (hv : newBlock K.gv v' w) (hlt : ∀ j, v'.ownBlock = some j → j < w1.heap.size) : MAt (w1.setCell ⟨K.R, 8, none⟩ v') w1.heap.size { K with gv := v' } l := by
  have hne : K.gv.ownBlock ≠ some K.R := kind_ne h.glob h.box (by decide)
  have hbx : w1.heap[K.R]? = some (.cells (boxM K) 72 (0, 0)) := (g.block K.R h.lt.2 (fun e => hne e.symm)).trans h.box
  have hvb : ∀ j, v'.ownBlock = some j → j ≠ K.R := fun j hj e => kind_ne o hbx (by decide) (by rw [← e]; exact hj)
  have h0 : Below K.w0.heap.size w w1 := ⟨g.os, g.tape, g.output, g.size, fun k hk => g.block k (by have := h.lt; omega) (fun e => by have := (h.glob.lt k e.symm).1; omega)⟩
  refine ⟨?_, ⟨h.lt.1, Nat.lt_of_lt_of_le h.lt.2 g.size⟩, h.mod, (h.old.trans h0).setCell (p := ⟨K.R, 8, none⟩) h.lt.1 _, ownsRow_of o (fun j hj => Below.heap_setCell _ _ _ _ (hvb j hj)), hlt, by simp [World.setCell]⟩
  rw [box_set hbx]
  rfl
/-- a memory beside a machine whose globals turn -/
theorem MemS.beside {mp : Value} {L : Option (List UInt8)} (h : MemS w lo mp L) {F : Nat → Prop} (k : Keeps F w w') (hF : ∀ j, F j → (∃ cs t f, w.heap[j]? = some (.cells cs t f) ∧ t ≠ 115 ∧ t ≠ 83 ∧ t ≠ 5)) : MemS w' lo mp L := by
  cases L with
  | none => exact h
  | some l =>
    obtain ⟨mb, pb, pc, pv, mx, h1, h2⟩ := h
    refine ⟨mb, pb, pc, pv, mx, h1, h2.kept fun j hj => k.block j (h2.foot_lt j hj).2 (fun hf => ?_)⟩
    obtain ⟨cs, t, f, hc, n1, n2, n3⟩ := hF j hf
    rcases hj with rfl | rfl | hj
    · have := h2.box
      rw [hc] at this
      simp at this
      exact n1 this.2.1
    · exact kind_ne h2.row hc (Ne.symm n2) rfl
    · rcases h2.page with ⟨hp, _⟩ | ⟨p, hp, ho⟩
      · rw [hp] at hj; cases hj
      · exact kind_ne ho hc (Ne.symm n3) hj
end
end Go.Proofs.YtmbgemcddjailaaGreatDoor.Run
