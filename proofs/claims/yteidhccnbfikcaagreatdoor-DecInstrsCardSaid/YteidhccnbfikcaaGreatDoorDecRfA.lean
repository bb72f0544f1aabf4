/-
  The document's own reader of chapter 6: how it lies; fails, one, number, signed, many, text. No condition beyond what each theorem names.
-/
import Derived.Test.YteidhccnbfikcaaGreatDoorRg
import Derived.Test.YteidhccnbfikcaaGreatDoorDeB
import Derived.Test.YteidhccnbfikcaaGreatDoorLbC
namespace Go.Proofs.YteidhccnbfikcaaGreatDoor.Dec
open Go.RowKit Go.Maps Go.Proofs.YteidhccnbfikcaaGreatDoor.Op Go.Proofs.YteidhccnbfikcaaGreatDoor.Mod Go.Proofs.YteidhccnbfikcaaGreatDoor.Leb Go.Proofs.YteidhccnbfikcaaGreatDoor.Enc
set_option linter.unusedVariables false
set_option linter.unusedSimpArgs false
def boxF (S : ByteArray) (en : Nat) (r : RS) : Array Value := #[.string S, .int .i64 (r.pos : Int), .int .i64 (en : Int), .int .i64 r.e]
/-- the reader's box: it reads the text up to an end -/
structure RfAt (w : World) (rb : Nat) (S : ByteArray) (en : Nat) (r : RS) : Prop where
  box : w.heap[rb]? = some (.cells (boxF S en r) 151 (0, 0))
  le : en ≤ S.size
  pos : r.pos ≤ en
  room : S.size ≤ 1000000000000000
variable {w w' W : World} {rb en : Nat} {S : ByteArray} {r r' : RS}
def cutS (S : ByteArray) (en : Nat) : List UInt8 := S.data.toList.take en
theorem cut_len (h : en ≤ S.size) : (cutS S en).length = en := by
  have e : S.data.toList.length = S.size := rfl
  unfold cutS
  rw [List.length_take]
  omega
theorem RfAt.lt (h : RfAt w rb S en r) : rb < w.heap.size := (Array.getElem?_eq_some_iff.1 h.box).1
theorem RfAt.of (h : RfAt w rb S en r) (he : w'.heap[rb]? = w.heap[rb]?) : RfAt w' rb S en r := ⟨he.trans h.box, h.le, h.pos, h.room⟩
theorem RfAt.later (h : RfAt w rb S en r) (hb : Below w.heap.size w w') : RfAt w' rb S en r := h.of (hb.block rb h.lt)
theorem RfAt.kept {F : Nat → Prop} (h : RfAt w rb S en r) (hk : Keeps F w w') (hf : ¬ F rb) : RfAt w' rb S en r := h.of (hk.block rb h.lt hf)
theorem RfAt.fz (h : RfAt w rb S en r) (j : Nat) : w.frozen? ⟨rb, j, none⟩ = false := frozen_of_row w rb j _ _ h.box
theorem RfAt.c0 (h : RfAt w rb S en r) : w.cell? ⟨rb, 0, none⟩ = some (.string S) := by rw [cell_of_row w rb 0 _ _ _ h.box]; rfl
theorem RfAt.c1 (h : RfAt w rb S en r) : w.cell? ⟨rb, 1, none⟩ = some (.int .i64 (r.pos : Int)) := by rw [cell_of_row w rb 1 _ _ _ h.box]; rfl
theorem RfAt.c2 (h : RfAt w rb S en r) : w.cell? ⟨rb, 2, none⟩ = some (.int .i64 (en : Int)) := by rw [cell_of_row w rb 2 _ _ _ h.box]; rfl
theorem RfAt.c3 (h : RfAt w rb S en r) : w.cell? ⟨rb, 3, none⟩ = some (.int .i64 r.e) := by rw [cell_of_row w rb 3 _ _ _ h.box]; rfl
theorem RfAt.setE (h : RfAt w rb S en r) (c : Int) : RfAt (w.setCell ⟨rb, 3, none⟩ (.int .i64 c)) rb S en ⟨r.pos, c⟩ := by
  refine ⟨?_, h.le, h.pos, h.room⟩
  rw [box_set h.box]
  rfl
theorem RfAt.setPos (h : RfAt w rb S en r) (k : Nat) (hk : k ≤ en) : RfAt (w.setCell ⟨rb, 1, none⟩ (.int .i64 (k : Int))) rb S en ⟨k, r.e⟩ := by
  refine ⟨?_, h.le, hk, h.room⟩
  rw [box_set h.box]
  rfl
theorem cut_run (S : ByteArray) (en : Nat) (h : en ≤ S.size) (W : World) : (Instr.slice 9 (.string S) none (some (.int .i64 (en : Int))) none).run Tryz.prog W = .ok (.string (S.extract 0 en)) W := by
  have ht := Tryz.underlying9
  have h1 : (0 : Int) ≤ (en : Int) := by omega
  have h2 : (en : Int) ≤ (S.size : Int) := by omega
  simp [Instr.slice, run_underlying ht, Instr.sliceBounds, run_sliceBound, *]
theorem cut_list (S : ByteArray) (en : Nat) : (S.extract 0 en).data.toList = cutS S en := by
  unfold cutS
  rw [ByteArray.data_extract, Array.toList_extract]
  first | done | simp [List.extract]
theorem cut_size (S : ByteArray) (en : Nat) (h : en ≤ S.size) : (S.extract 0 en).size = en := by
  have h1 : (S.extract 0 en).data.toList.length = (S.extract 0 en).size := rfl
  rw [← h1, cut_list, cut_len h]
theorem cut_at {j : Nat} {x : UInt8} (h : (cutS S en)[j]? = some x) : S.data.toList[j]? = some x := by
  unfold cutS at h
  rw [List.getElem?_take] at h
  split at h
  · exact h
  · cases h
set_option maxRecDepth 100000 in
set_option maxHeartbeats 2000000 in
theorem rf_fails (w : World) (h : RfAt w rb S en r) (c : Int) :
    Calls Tryz.prog 81 #[.pointer (some ⟨rb, 0, none⟩), .int .i64 c] w fun e w' => e = .returned (.tuple #[]) ∧ RfAt w' rb S en (failP true c r) ∧ Kr rb w w' := by
  have H := Lib.hid h
  have a3 := h.c3
  have f3 := h.fz 3
  have HS := Lib.hid (h.setE c)
  obtain ⟨p, e⟩ := r
  dsimp only at a3
  clear h
  by_cases he : e = 0
  · rw [fail_yes (r := ⟨p, e⟩) he]
    have hq : (e == 0) = true := by rw [he]; rfl
    clear he
    go_enter Tryz.func81, Tryz.ntmps81
    go_wp2_with fail
    go_end0
    exact ⟨rfl, HS.out, kr_set _ _ _ _⟩
  · rw [fail_no (r := ⟨p, e⟩) (.inr he)]
    have hq : (e == 0) = false := beq_eq_false_iff_ne.2 he
    clear he
    go_enter Tryz.func81, Tryz.ntmps81
    go_wp2_with fail
    go_end0
    exact ⟨rfl, H.out, Kr.refl _ _⟩
set_option maxRecDepth 100000 in
set_option maxHeartbeats 2000000 in
theorem rf_one_a {p : Nat} {x : UInt8} (hx : (cutS S en)[p]? = some x) (w : World) (h : RfAt w rb S en ⟨p, 0⟩) :
    Calls Tryz.prog 80 #[.pointer (some ⟨rb, 0, none⟩)] w fun e' w' => e' = .returned (.int .i64 (x.toNat : Int)) ∧ RfAt w' rb S en ⟨p + 1, 0⟩ ∧ Kr rb w w' := by
  have H := Lib.hid h
  have a3 := h.c3
  dsimp only at a3
  have hlt : p < en := by have := (List.getElem?_eq_some_iff.1 hx).1; rw [cut_len h.le] at this; exact this
  have hsz := h.room
  have hle := h.le
  have hd : decide ((en : Int) ≤ (p : Int)) = false := decide_eq_false (by omega)
  have hd2 : decide (en ≤ p) = false := decide_eq_false (by omega)
  have HX := Lib.hid (index_str S p x (cut_at hx))
  have hw1 : wrap64 ((p : Int) + 1) = (p : Int) + 1 := by unfold wrap64; omega
  have HP := Lib.hid (show p + 1 ≤ en from hlt)
  have hw2 : wrap64 ((p : Int) + 1 - 1) = (p : Int) := by unfold wrap64; omega
  have hwp : IntKind.i64.wrap (p : Int) = (p : Int) := by rw [IntKind.wrap_i64]; omega
  have hwx : IntKind.i64.wrap (x.toNat : Int) = (x.toNat : Int) := by have := UInt8.toNat_lt x; rw [IntKind.wrap_i64]; omega
  have hwx2 : wrap64 (x.toNat : Int) = (x.toNat : Int) := by have := UInt8.toNat_lt x; unfold wrap64; omega
  clear h hx hlt hsz hle
  go_enter Tryz.func80, Tryz.ntmps80
  go_upto_region 3 with fail
  clear a3
  refine wp_region_held_drew (S := fun W => W.cell? ⟨rb, 0, none⟩ = some (.string S) ∧ W.cell? ⟨rb, 1, none⟩ = some (.int .i64 (p : Int)) ∧ W.cell? ⟨rb, 2, none⟩ = some (.int .i64 (en : Int)) ∧ W.cell? ⟨rb, 3, none⟩ = some (.int .i64 0) ∧ W.heap[rb]? = some (.cells (boxF S en ⟨p, 0⟩) 151 (0, 0)) ∧ Below w.heap.size w W) (by kernel_rfl) ⟨H.out.c0, H.out.c1, H.out.c2, H.out.c3, H.out.box, (Below.refl _ _).drew⟩ (fun hHeld => ?_)
  refine ty 0 (some 8) (h := ?_)
  try simp only [zpA, zpB, zpC, zpD, zpE]
  refine ty 1 (some 9) (h := ?_)
  try simp only [zpA, zpB, zpC, zpD, zpE]
  refine ty 2 (some 10) (h := ?_)
  try simp only [zpA, zpB, zpC, zpD, zpE]
  refine ty 3 (some 11) (h := ?_)
  try simp only [zpA, zpB, zpC, zpD, zpE]
  refine ty 4 (some 12) (h := ?_)
  try simp only [zpA, zpB, zpC, zpD, zpE]
  refine ty 5 (some 13) (h := ?_)
  try simp only [zpA, zpB, zpC, zpD, zpE]
  refine ty 6 (some 14) (h := ?_)
  try simp only [zpA, zpB, zpC, zpD, zpE]
  refine ty 7 (some 15) (h := ?_)
  try simp only [zpA, zpB, zpC, zpD, zpE]
  refine ty 8 (some 16) (h := ?_)
  try simp only [zpA, zpB, zpC, zpD, zpE]
  refine wpAnyH_done (by kernel_rfl) ?_ _
  have HR := Lib.hid (show RfAt _ rb S en ⟨p, 0⟩ from ⟨hHeld.2.2.2.2.1, H.out.le, H.out.pos, H.out.room⟩)
  have HB := Lib.hid hHeld.2.2.2.2.2
  clear hHeld
  obtain ⟨W2, hW2⟩ : ∃ W2, w.drew = W2 := ⟨_, rfl⟩
  rw [hW2] at HR HB ⊢
  clear hW2 hd hd2
  have a1 := HR.out.c1
  have f1 := HR.out.fz 1
  dsimp only at a1
  have HS := HR.out.setPos (p + 1) HP.out
  rw [show ((p + 1 : Nat) : Int) = (p : Int) + 1 by omega] at HS
  obtain ⟨W3, hW3⟩ : ∃ W3, W2.setCell ⟨rb, 1, none⟩ (.int .i64 ((p : Int) + 1)) = W3 := ⟨_, rfl⟩
  rw [hW3] at HS
  have H3 := Lib.hid HS
  have HW3 := Lib.hid hW3
  have K3 := Lib.hid (show Kr rb w W3 by rw [← hW3]; exact kr_trans (.of_below HB.out) (kr_set _ _ _ _))
  clear HS hW3
  go_upto_region 7 with fail
  rw [HW3.out]
  clear a1 f1
  have b0 := H3.out.c0
  have b1 := H3.out.c1
  have hix := HX.out
  dsimp only at b1
  rw [show ((p + 1 : Nat) : Int) = (p : Int) + 1 by omega] at b1
  go_quiet (fail)
  go_wp2_with fail
  go_ret
  exact ⟨rfl, H3.out.of rfl, kr_trans K3.out (kr_drewN _ _)⟩
set_option maxRecDepth 100000 in
set_option maxHeartbeats 2000000 in
theorem rf_one_b {p : Nat} (hlt : ¬ p < en) (w : World) (h : RfAt w rb S en ⟨p, 0⟩) :
    Calls Tryz.prog 80 #[.pointer (some ⟨rb, 0, none⟩)] w fun e' w' => e' = .returned (.int .i64 0) ∧ RfAt w' rb S en ⟨p, 2⟩ ∧ Kr rb w w' := by
  have H := Lib.hid h
  have a3 := h.c3
  dsimp only at a3
  have hd : decide ((en : Int) ≤ (p : Int)) = true := decide_eq_true (by omega)
  have hd2 : decide (en ≤ p) = true := decide_eq_true (by omega)
  clear h hlt
  go_enter Tryz.func80, Tryz.ntmps80
  go_upto_region 3 with fail
  clear a3
  refine wp_region_held_drew (S := fun W => W.cell? ⟨rb, 0, none⟩ = some (.string S) ∧ W.cell? ⟨rb, 1, none⟩ = some (.int .i64 (p : Int)) ∧ W.cell? ⟨rb, 2, none⟩ = some (.int .i64 (en : Int)) ∧ W.cell? ⟨rb, 3, none⟩ = some (.int .i64 0) ∧ W.heap[rb]? = some (.cells (boxF S en ⟨p, 0⟩) 151 (0, 0)) ∧ Below w.heap.size w W) (by kernel_rfl) ⟨H.out.c0, H.out.c1, H.out.c2, H.out.c3, H.out.box, (Below.refl _ _).drew⟩ (fun hHeld => ?_)
  refine ty 0 (some 8) (h := ?_)
  try simp only [zpA, zpB, zpC, zpD, zpE]
  refine ty 1 (some 9) (h := ?_)
  try simp only [zpA, zpB, zpC, zpD, zpE]
  refine ty 2 (some 10) (h := ?_)
  try simp only [zpA, zpB, zpC, zpD, zpE]
  refine ty 3 (some 11) (h := ?_)
  try simp only [zpA, zpB, zpC, zpD, zpE]
  refine ty 4 (some 12) (h := ?_)
  try simp only [zpA, zpB, zpC, zpD, zpE]
  refine ty 5 (some 13) (h := ?_)
  try simp only [zpA, zpB, zpC, zpD, zpE]
  refine ty 6 (some 14) (h := ?_)
  try simp only [zpA, zpB, zpC, zpD, zpE]
  refine ty 7 (some 15) (h := ?_)
  try simp only [zpA, zpB, zpC, zpD, zpE]
  refine ty 8 (some 16) (h := ?_)
  try simp only [zpA, zpB, zpC, zpD, zpE]
  refine wpAnyH_done (by kernel_rfl) ?_ _
  have HR := Lib.hid (show RfAt _ rb S en ⟨p, 0⟩ from ⟨hHeld.2.2.2.2.1, H.out.le, H.out.pos, H.out.room⟩)
  have HB := Lib.hid hHeld.2.2.2.2.2
  clear hHeld
  obtain ⟨W2, hW2⟩ : ∃ W2, w.drew = W2 := ⟨_, rfl⟩
  rw [hW2] at HR HB ⊢
  clear hW2
  have a3 := HR.out.c3
  have f3 := HR.out.fz 3
  dsimp only at a3
  have HS := Lib.hid (HR.out.setE 2)
  go_wp2_with fail
  go_ret
  exact ⟨rfl, HS.out, kr_trans (.of_below HB.out) (kr_set _ _ _ _)⟩
set_option maxRecDepth 100000 in
set_option maxHeartbeats 2000000 in
theorem rf_one_c {p : Nat} {e : Int} (he : e ≠ 0) (w : World) (h : RfAt w rb S en ⟨p, e⟩) :
    Calls Tryz.prog 80 #[.pointer (some ⟨rb, 0, none⟩)] w fun e' w' => e' = .returned (.int .i64 0) ∧ RfAt w' rb S en ⟨p, e⟩ ∧ Kr rb w w' := by
  have H := Lib.hid h
  have a3 := h.c3
  dsimp only at a3
  have hq : (e == 0) = false := beq_eq_false_iff_ne.2 he
  have hq2 : (e != 0) = true := bne_iff_ne.2 he
  clear h he
  go_enter Tryz.func80, Tryz.ntmps80
  go_wp2_with fail
  go_ret
  exact ⟨rfl, H.out, Kr.refl _ _⟩
theorem rf_one (w : World) (h : RfAt w rb S en r) {B : Nat} {q : RS} (hb : oneP (cutS S en) r = (B, q)) :
    Calls Tryz.prog 80 #[.pointer (some ⟨rb, 0, none⟩)] w fun e w' => e = .returned (.int .i64 (B : Int)) ∧ RfAt w' rb S en q ∧ Kr rb w w' := by
  obtain ⟨p, e⟩ := r
  unfold oneP at hb
  by_cases he : e = 0
  · subst he
    rw [if_pos rfl, cut_len h.le] at hb
    dsimp only at hb
    by_cases hlt : p < en
    · rw [if_pos hlt] at hb
      obtain ⟨rfl, rfl⟩ := Prod.mk.inj hb
      obtain ⟨x, hx⟩ : ∃ x, (cutS S en)[p]? = some x := ⟨_, List.getElem?_eq_getElem (by rw [cut_len h.le]; exact hlt)⟩
      rw [List.getD_eq_getElem?_getD, hx]
      exact rf_one_a hx w h
    · rw [if_neg hlt] at hb
      obtain ⟨rfl, rfl⟩ := Prod.mk.inj hb
      exact rf_one_b hlt w h
  · rw [if_neg he] at hb
    obtain ⟨rfl, rfl⟩ := Prod.mk.inj hb
    exact rf_one_c he w h
set_option maxRecDepth 100000 in
set_option maxHeartbeats 2000000 in
theorem rf_num_a {p : Nat} {x : Int} {n : Nat} (hA : ansU 32 (cutS S en) p = (x, (n : Int), 0)) (hn : n ≤ en) (hx : 0 ≤ x ∧ x < 4294967296) (w : World) (h : RfAt w rb S en ⟨p, 0⟩) :
    Calls Tryz.prog 84 #[.pointer (some ⟨rb, 0, none⟩)] w fun e' w' => e' = .returned (.int .i64 x) ∧ RfAt w' rb S en ⟨n, 0⟩ ∧ Kr rb w w' := by
  have H := Lib.hid h
  have a3 := h.c3
  dsimp only at a3
  have hcr := cut_run S en h.le
  have HC := Lib.hid (fun (W : World) => refU32_any (S.extract 0 en) (p : Int) W (by rw [cut_size S en h.le]; have := h.le; have := h.room; unfold maxLen; omega))
  rw [cut_list, hA] at HC
  clear h hA
  have HN := Lib.hid hn
  have hwx : wrap64 x = x := by unfold wrap64; omega
  have hwx2 : IntKind.i64.wrap x = x := by rw [IntKind.wrap_i64]; omega
  clear hx hn
  go_enter Tryz.func84, Tryz.ntmps84
  go_upto_region 3 with fail
  clear a3
  refine wp_region_held_drew (S := fun W => W.cell? ⟨rb, 0, none⟩ = some (.string S) ∧ W.cell? ⟨rb, 1, none⟩ = some (.int .i64 (p : Int)) ∧ W.cell? ⟨rb, 2, none⟩ = some (.int .i64 (en : Int)) ∧ W.cell? ⟨rb, 3, none⟩ = some (.int .i64 0) ∧ W.heap[rb]? = some (.cells (boxF S en ⟨p, 0⟩) 151 (0, 0)) ∧ Below w.heap.size w W) (by kernel_rfl) ⟨H.out.c0, H.out.c1, H.out.c2, H.out.c3, H.out.box, (Below.refl _ _).drew⟩ (fun hHeld => ?_)
  refine ty 0 (some 12) (h := ?_)
  try simp only [zpA, zpB, zpC, zpD, zpE]
  refine ty 1 (some 13) (h := ?_)
  try simp only [zpA, zpB, zpC, zpD, zpE]
  refine ty 2 (some 14) (h := ?_)
  try simp only [zpA, zpB, zpC, zpD, zpE]
  refine ty 3 (some 15) (h := ?_)
  try simp only [zpA, zpB, zpC, zpD, zpE]
  refine ty 4 (some 16) (h := ?_)
  try simp only [zpA, zpB, zpC, zpD, zpE]
  refine ty 5 (some 17) (h := ?_)
  try simp only [zpA, zpB, zpC, zpD, zpE]
  refine ty 6 (some 18) (h := ?_)
  try simp only [zpA, zpB, zpC, zpD, zpE]
  refine ty 7 (some 19) (h := ?_)
  try simp only [zpA, zpB, zpC, zpD, zpE]
  refine ty 8 (some 20) (h := ?_)
  try simp only [zpA, zpB, zpC, zpD, zpE]
  refine ty 9 (some 21) (h := ?_)
  try simp only [zpA, zpB, zpC, zpD, zpE]
  refine ty 10 (some 22) (h := ?_)
  try simp only [zpA, zpB, zpC, zpD, zpE]
  refine ty 11 (some 23) (h := ?_)
  try simp only [zpA, zpB, zpC, zpD, zpE]
  refine ty 12 (some 24) (h := ?_)
  try simp only [zpA, zpB, zpC, zpD, zpE]
  refine wpAnyH_ready (rs := [13]) (by kernel_rfl) (by simp) ?_
  refine AllReadyH.cons (o := _) rfl (fun K hK => ?_) AllReadyH.nil
  go_simp
  go_at_call 150
  refine (HC.out _).mono ?_
  rintro en6 W6 ⟨rfl, rfl⟩
  go_wp2_with fail
  refine hK.out _ _ hHeld (fun hHeld => ?_)
  clear hK K
  try simp only [zpA, zpB, zpC, zpD, zpE]
  refine ty 14 (some 11) (h := ?_)
  try simp only [zpA, zpB, zpC, zpD, zpE]
  refine ty 15 (some 26) (h := ?_)
  try simp only [zpA, zpB, zpC, zpD, zpE]
  refine ty 16 (some 27) (h := ?_)
  try simp only [zpA, zpB, zpC, zpD, zpE]
  refine ty 17 (some 28) (h := ?_)
  try simp only [zpA, zpB, zpC, zpD, zpE]
  refine ty 18 (some 3) (h := ?_)
  try simp only [zpA, zpB, zpC, zpD, zpE]
  refine ty 19 (some 4) (h := ?_)
  try simp only [zpA, zpB, zpC, zpD, zpE]
  refine ty 20 (some 5) (h := ?_)
  try simp only [zpA, zpB, zpC, zpD, zpE]
  refine wpAnyH_done (by kernel_rfl) ?_ _
  have HR := Lib.hid (show RfAt _ rb S en ⟨p, 0⟩ from ⟨hHeld.2.2.2.2.1, H.out.le, H.out.pos, H.out.room⟩)
  have HB := Lib.hid hHeld.2.2.2.2.2
  clear hHeld
  have a1 := HR.out.c1
  have f1 := HR.out.fz 1
  dsimp only at a1
  have HS := Lib.hid (HR.out.setPos n HN.out)
  dsimp only at HS
  go_wp2_with fail
  go_ret
  exact ⟨rfl, HS.out, kr_trans (.of_below HB.out) (kr_set _ _ _ _)⟩
set_option maxRecDepth 100000 in
set_option maxHeartbeats 2000000 in
theorem rf_num_b {p : Nat} {x nx er : Int} (hA : ansU 32 (cutS S en) p = (x, nx, er)) (her : er ≠ 0) (w : World) (h : RfAt w rb S en ⟨p, 0⟩) :
    Calls Tryz.prog 84 #[.pointer (some ⟨rb, 0, none⟩)] w fun e' w' => e' = .returned (.int .i64 0) ∧ RfAt w' rb S en ⟨p, 2⟩ ∧ Kr rb w w' := by
  have H := Lib.hid h
  have a3 := h.c3
  dsimp only at a3
  have hcr := cut_run S en h.le
  have HC := Lib.hid (fun (W : World) => refU32_any (S.extract 0 en) (p : Int) W (by rw [cut_size S en h.le]; have := h.le; have := h.room; unfold maxLen; omega))
  rw [cut_list, hA] at HC
  clear h hA
  have hq : (er == 0) = false := beq_eq_false_iff_ne.2 her
  have hq2 : (er != 0) = true := bne_iff_ne.2 her
  clear her
  go_enter Tryz.func84, Tryz.ntmps84
  go_upto_region 3 with fail
  clear a3
  refine wp_region_held_drew (S := fun W => W.cell? ⟨rb, 0, none⟩ = some (.string S) ∧ W.cell? ⟨rb, 1, none⟩ = some (.int .i64 (p : Int)) ∧ W.cell? ⟨rb, 2, none⟩ = some (.int .i64 (en : Int)) ∧ W.cell? ⟨rb, 3, none⟩ = some (.int .i64 0) ∧ W.heap[rb]? = some (.cells (boxF S en ⟨p, 0⟩) 151 (0, 0)) ∧ Below w.heap.size w W) (by kernel_rfl) ⟨H.out.c0, H.out.c1, H.out.c2, H.out.c3, H.out.box, (Below.refl _ _).drew⟩ (fun hHeld => ?_)
  refine ty 0 (some 12) (h := ?_)
  try simp only [zpA, zpB, zpC, zpD, zpE]
  refine ty 1 (some 13) (h := ?_)
  try simp only [zpA, zpB, zpC, zpD, zpE]
  refine ty 2 (some 14) (h := ?_)
  try simp only [zpA, zpB, zpC, zpD, zpE]
  refine ty 3 (some 15) (h := ?_)
  try simp only [zpA, zpB, zpC, zpD, zpE]
  refine ty 4 (some 16) (h := ?_)
  try simp only [zpA, zpB, zpC, zpD, zpE]
  refine ty 5 (some 17) (h := ?_)
  try simp only [zpA, zpB, zpC, zpD, zpE]
  refine ty 6 (some 18) (h := ?_)
  try simp only [zpA, zpB, zpC, zpD, zpE]
  refine ty 7 (some 19) (h := ?_)
  try simp only [zpA, zpB, zpC, zpD, zpE]
  refine ty 8 (some 20) (h := ?_)
  try simp only [zpA, zpB, zpC, zpD, zpE]
  refine ty 9 (some 21) (h := ?_)
  try simp only [zpA, zpB, zpC, zpD, zpE]
  refine ty 10 (some 22) (h := ?_)
  try simp only [zpA, zpB, zpC, zpD, zpE]
  refine ty 11 (some 23) (h := ?_)
  try simp only [zpA, zpB, zpC, zpD, zpE]
  refine ty 12 (some 24) (h := ?_)
  try simp only [zpA, zpB, zpC, zpD, zpE]
  refine wpAnyH_ready (rs := [13]) (by kernel_rfl) (by simp) ?_
  refine AllReadyH.cons (o := _) rfl (fun K hK => ?_) AllReadyH.nil
  go_simp
  go_at_call 150
  refine (HC.out _).mono ?_
  rintro en6 W6 ⟨rfl, rfl⟩
  go_wp2_with fail
  refine hK.out _ _ hHeld (fun hHeld => ?_)
  clear hK K
  try simp only [zpA, zpB, zpC, zpD, zpE]
  refine ty 14 (some 11) (h := ?_)
  try simp only [zpA, zpB, zpC, zpD, zpE]
  refine ty 15 (some 26) (h := ?_)
  try simp only [zpA, zpB, zpC, zpD, zpE]
  refine ty 16 (some 27) (h := ?_)
  try simp only [zpA, zpB, zpC, zpD, zpE]
  refine ty 17 (some 28) (h := ?_)
  try simp only [zpA, zpB, zpC, zpD, zpE]
  refine ty 18 (some 3) (h := ?_)
  try simp only [zpA, zpB, zpC, zpD, zpE]
  refine ty 19 (some 4) (h := ?_)
  try simp only [zpA, zpB, zpC, zpD, zpE]
  refine ty 20 (some 5) (h := ?_)
  try simp only [zpA, zpB, zpC, zpD, zpE]
  refine wpAnyH_done (by kernel_rfl) ?_ _
  have HR := Lib.hid (show RfAt _ rb S en ⟨p, 0⟩ from ⟨hHeld.2.2.2.2.1, H.out.le, H.out.pos, H.out.room⟩)
  have HB := Lib.hid hHeld.2.2.2.2.2
  clear hHeld
  have a3 := HR.out.c3
  have f3 := HR.out.fz 3
  dsimp only at a3
  have HS := Lib.hid (HR.out.setE 2)
  go_wp2_with fail
  go_ret
  exact ⟨rfl, HS.out, kr_trans (.of_below HB.out) (kr_set _ _ _ _)⟩
set_option maxRecDepth 100000 in
set_option maxHeartbeats 2000000 in
theorem rf_num_c {p : Nat} {e : Int} (he : e ≠ 0) (w : World) (h : RfAt w rb S en ⟨p, e⟩) :
    Calls Tryz.prog 84 #[.pointer (some ⟨rb, 0, none⟩)] w fun e' w' => e' = .returned (.int .i64 0) ∧ RfAt w' rb S en ⟨p, e⟩ ∧ Kr rb w w' := by
  have H := Lib.hid h
  have a3 := h.c3
  dsimp only at a3
  have hq : (e == 0) = false := beq_eq_false_iff_ne.2 he
  have hq2 : (e != 0) = true := bne_iff_ne.2 he
  clear h he
  go_enter Tryz.func84, Tryz.ntmps84
  go_wp2_with fail
  go_ret
  exact ⟨rfl, H.out, Kr.refl _ _⟩
theorem rf_number (w : World) (h : RfAt w rb S en r) {N : Int} {q : RS} (hb : numberP (cutS S en) r = (N, q)) :
    Calls Tryz.prog 84 #[.pointer (some ⟨rb, 0, none⟩)] w fun e w' => e = .returned (.int .i64 N) ∧ RfAt w' rb S en q ∧ Kr rb w w' := by
  obtain ⟨p, e⟩ := r
  have hp := h.pos
  have hl := cut_len (S := S) h.le
  unfold numberP readP at hb
  by_cases he : e = 0
  · subst he
    rw [if_pos rfl] at hb
    dsimp only at hb
    obtain ⟨⟨x, nx, er⟩, hA⟩ : ∃ A, ansU 32 (cutS S en) p = A := ⟨_, rfl⟩
    rw [hA] at hb
    dsimp only at hb
    by_cases h0 : er = 0
    · subst h0
      rw [if_pos rfl] at hb
      obtain ⟨rfl, rfl⟩ := Prod.mk.inj hb
      obtain ⟨v, k, hv, hk, _, _, hle, hv2, _⟩ := ansU_facts hA
      obtain ⟨n, rfl⟩ : ∃ n : Nat, nx = (n : Int) := ⟨nx.toNat, by omega⟩
      rw [show ((n : Int)).toNat = n by omega]
      exact rf_num_a hA (by dsimp only at hp hle; omega) (by constructor <;> omega) w h
    · rw [if_neg h0] at hb
      obtain ⟨rfl, rfl⟩ := Prod.mk.inj hb
      exact rf_num_b hA h0 w h
  · rw [if_neg he] at hb
    obtain ⟨rfl, rfl⟩ := Prod.mk.inj hb
    exact rf_num_c he w h
set_option maxRecDepth 100000 in
set_option maxHeartbeats 2000000 in
theorem rf_sgn_a {p : Nat} {x : Int} {n : Nat} (hA : ansS 64 (cutS S en) p = (x, (n : Int), 0)) (hn : n ≤ en) (w : World) (h : RfAt w rb S en ⟨p, 0⟩) :
    Calls Tryz.prog 163 #[.pointer (some ⟨rb, 0, none⟩), .bool true] w fun e' w' => e' = .returned (.int .i64 x) ∧ RfAt w' rb S en ⟨n, 0⟩ ∧ Kr rb w w' := by
  have H := Lib.hid h
  have a3 := h.c3
  dsimp only at a3
  have hcr := cut_run S en h.le
  have hz := cut_size S en h.le
  have hmx : (S.extract 0 en).size ≤ maxLen := by rw [hz]; have := h.le; have := h.room; unfold maxLen; omega
  have HC := Lib.hid (fun (W : World) => refS64_any (S.extract 0 en) (p : Int) W hmx)
  have HC2 := Lib.hid (fun (W : World) => refS32_any (S.extract 0 en) (p : Int) W hmx)
  rw [cut_list] at HC HC2
  rw [hA] at HC
  have HN := Lib.hid hn
  clear h hA hn hz hmx
  go_enter Tryz.func163, Tryz.ntmps163
  go_upto_region 3 with fail
  clear a3
  refine wp_region_held_drew (S := fun W => W.cell? ⟨rb, 0, none⟩ = some (.string S) ∧ W.cell? ⟨rb, 1, none⟩ = some (.int .i64 (p : Int)) ∧ W.cell? ⟨rb, 2, none⟩ = some (.int .i64 (en : Int)) ∧ W.cell? ⟨rb, 3, none⟩ = some (.int .i64 0) ∧ W.heap[rb]? = some (.cells (boxF S en ⟨p, 0⟩) 151 (0, 0)) ∧ Below w.heap.size w W) (by kernel_rfl) ⟨H.out.c0, H.out.c1, H.out.c2, H.out.c3, H.out.box, (Below.refl _ _).drew⟩ (fun hHeld => ?_)
  refine ty 0 (some 17) (h := ?_)
  try simp only [zpA, zpB, zpC, zpD, zpE]
  refine ty 1 (some 18) (h := ?_)
  try simp only [zpA, zpB, zpC, zpD, zpE]
  refine ty 2 (some 19) (h := ?_)
  try simp only [zpA, zpB, zpC, zpD, zpE]
  refine ty 3 (some 20) (h := ?_)
  try simp only [zpA, zpB, zpC, zpD, zpE]
  refine ty 4 (some 21) (h := ?_)
  try simp only [zpA, zpB, zpC, zpD, zpE]
  refine ty 5 (some 22) (h := ?_)
  try simp only [zpA, zpB, zpC, zpD, zpE]
  refine ty 6 (some 23) (h := ?_)
  try simp only [zpA, zpB, zpC, zpD, zpE]
  refine ty 7 (some 24) (h := ?_)
  try simp only [zpA, zpB, zpC, zpD, zpE]
  refine ty 8 (some 25) (h := ?_)
  try simp only [zpA, zpB, zpC, zpD, zpE]
  refine ty 9 (some 26) (h := ?_)
  try simp only [zpA, zpB, zpC, zpD, zpE]
  refine ty 10 (some 27) (h := ?_)
  try simp only [zpA, zpB, zpC, zpD, zpE]
  refine ty 11 (some 28) (h := ?_)
  try simp only [zpA, zpB, zpC, zpD, zpE]
  refine ty 12 (some 29) (h := ?_)
  try simp only [zpA, zpB, zpC, zpD, zpE]
  refine wpAnyH_ready (rs := [13]) (by kernel_rfl) (by simp) ?_
  refine AllReadyH.cons (o := _) rfl (fun K hK => ?_) AllReadyH.nil
  go_simp
  go_at_call 211
  refine (HC.out _).mono ?_
  rintro en6 W6 ⟨rfl, rfl⟩
  go_wp2_with fail
  refine hK.out _ _ hHeld (fun hHeld => ?_)
  clear hK K
  try simp only [zpA, zpB, zpC, zpD, zpE]
  refine ty 14 (some 16) (h := ?_)
  try simp only [zpA, zpB, zpC, zpD, zpE]
  refine ty 15 (some 31) (h := ?_)
  try simp only [zpA, zpB, zpC, zpD, zpE]
  refine ty 16 (some 32) (h := ?_)
  try simp only [zpA, zpB, zpC, zpD, zpE]
  refine ty 17 (some 33) (h := ?_)
  try simp only [zpA, zpB, zpC, zpD, zpE]
  refine ty 18 (some 5) (h := ?_)
  try simp only [zpA, zpB, zpC, zpD, zpE]
  refine ty 19 (some 6) (h := ?_)
  try simp only [zpA, zpB, zpC, zpD, zpE]
  refine ty 20 (some 7) (h := ?_)
  try simp only [zpA, zpB, zpC, zpD, zpE]
  refine wpAnyH_done (by kernel_rfl) ?_ _
  have HR := Lib.hid (show RfAt _ rb S en ⟨p, 0⟩ from ⟨hHeld.2.2.2.2.1, H.out.le, H.out.pos, H.out.room⟩)
  have HB := Lib.hid hHeld.2.2.2.2.2
  clear hHeld
  have a1 := HR.out.c1
  have f1 := HR.out.fz 1
  dsimp only at a1
  have HS := Lib.hid (HR.out.setPos n HN.out)
  dsimp only at HS
  go_wp2_with fail
  go_ret
  exact ⟨rfl, HS.out, kr_trans (.of_below HB.out) (kr_set _ _ _ _)⟩
set_option maxRecDepth 100000 in
set_option maxHeartbeats 2000000 in
theorem rf_sgn_b {p : Nat} {x nx er : Int} (hA : ansS 64 (cutS S en) p = (x, nx, er)) (her : er ≠ 0) (w : World) (h : RfAt w rb S en ⟨p, 0⟩) :
    Calls Tryz.prog 163 #[.pointer (some ⟨rb, 0, none⟩), .bool true] w fun e' w' => e' = .returned (.int .i64 0) ∧ RfAt w' rb S en ⟨p, 2⟩ ∧ Kr rb w w' := by
  have H := Lib.hid h
  have a3 := h.c3
  dsimp only at a3
  have hcr := cut_run S en h.le
  have hz := cut_size S en h.le
  have hmx : (S.extract 0 en).size ≤ maxLen := by rw [hz]; have := h.le; have := h.room; unfold maxLen; omega
  have HC := Lib.hid (fun (W : World) => refS64_any (S.extract 0 en) (p : Int) W hmx)
  have HC2 := Lib.hid (fun (W : World) => refS32_any (S.extract 0 en) (p : Int) W hmx)
  rw [cut_list] at HC HC2
  rw [hA] at HC
  have hq : (er == 0) = false := beq_eq_false_iff_ne.2 her
  have hq2 : (er != 0) = true := bne_iff_ne.2 her
  clear h hA her hz hmx
  go_enter Tryz.func163, Tryz.ntmps163
  go_upto_region 3 with fail
  clear a3
  refine wp_region_held_drew (S := fun W => W.cell? ⟨rb, 0, none⟩ = some (.string S) ∧ W.cell? ⟨rb, 1, none⟩ = some (.int .i64 (p : Int)) ∧ W.cell? ⟨rb, 2, none⟩ = some (.int .i64 (en : Int)) ∧ W.cell? ⟨rb, 3, none⟩ = some (.int .i64 0) ∧ W.heap[rb]? = some (.cells (boxF S en ⟨p, 0⟩) 151 (0, 0)) ∧ Below w.heap.size w W) (by kernel_rfl) ⟨H.out.c0, H.out.c1, H.out.c2, H.out.c3, H.out.box, (Below.refl _ _).drew⟩ (fun hHeld => ?_)
  refine ty 0 (some 17) (h := ?_)
  try simp only [zpA, zpB, zpC, zpD, zpE]
  refine ty 1 (some 18) (h := ?_)
  try simp only [zpA, zpB, zpC, zpD, zpE]
  refine ty 2 (some 19) (h := ?_)
  try simp only [zpA, zpB, zpC, zpD, zpE]
  refine ty 3 (some 20) (h := ?_)
  try simp only [zpA, zpB, zpC, zpD, zpE]
  refine ty 4 (some 21) (h := ?_)
  try simp only [zpA, zpB, zpC, zpD, zpE]
  refine ty 5 (some 22) (h := ?_)
  try simp only [zpA, zpB, zpC, zpD, zpE]
  refine ty 6 (some 23) (h := ?_)
  try simp only [zpA, zpB, zpC, zpD, zpE]
  refine ty 7 (some 24) (h := ?_)
  try simp only [zpA, zpB, zpC, zpD, zpE]
  refine ty 8 (some 25) (h := ?_)
  try simp only [zpA, zpB, zpC, zpD, zpE]
  refine ty 9 (some 26) (h := ?_)
  try simp only [zpA, zpB, zpC, zpD, zpE]
  refine ty 10 (some 27) (h := ?_)
  try simp only [zpA, zpB, zpC, zpD, zpE]
  refine ty 11 (some 28) (h := ?_)
  try simp only [zpA, zpB, zpC, zpD, zpE]
  refine ty 12 (some 29) (h := ?_)
  try simp only [zpA, zpB, zpC, zpD, zpE]
  refine wpAnyH_ready (rs := [13]) (by kernel_rfl) (by simp) ?_
  refine AllReadyH.cons (o := _) rfl (fun K hK => ?_) AllReadyH.nil
  go_simp
  go_at_call 211
  refine (HC.out _).mono ?_
  rintro en6 W6 ⟨rfl, rfl⟩
  go_wp2_with fail
  refine hK.out _ _ hHeld (fun hHeld => ?_)
  clear hK K
  try simp only [zpA, zpB, zpC, zpD, zpE]
  refine ty 14 (some 16) (h := ?_)
  try simp only [zpA, zpB, zpC, zpD, zpE]
  refine ty 15 (some 31) (h := ?_)
  try simp only [zpA, zpB, zpC, zpD, zpE]
  refine ty 16 (some 32) (h := ?_)
  try simp only [zpA, zpB, zpC, zpD, zpE]
  refine ty 17 (some 33) (h := ?_)
  try simp only [zpA, zpB, zpC, zpD, zpE]
  refine ty 18 (some 5) (h := ?_)
  try simp only [zpA, zpB, zpC, zpD, zpE]
  refine ty 19 (some 6) (h := ?_)
  try simp only [zpA, zpB, zpC, zpD, zpE]
  refine ty 20 (some 7) (h := ?_)
  try simp only [zpA, zpB, zpC, zpD, zpE]
  refine wpAnyH_done (by kernel_rfl) ?_ _
  have HR := Lib.hid (show RfAt _ rb S en ⟨p, 0⟩ from ⟨hHeld.2.2.2.2.1, H.out.le, H.out.pos, H.out.room⟩)
  have HB := Lib.hid hHeld.2.2.2.2.2
  clear hHeld
  have a3 := HR.out.c3
  have f3 := HR.out.fz 3
  dsimp only at a3
  have HS := Lib.hid (HR.out.setE 2)
  go_wp2_with fail
  go_ret
  exact ⟨rfl, HS.out, kr_trans (.of_below HB.out) (kr_set _ _ _ _)⟩
set_option maxRecDepth 100000 in
set_option maxHeartbeats 2000000 in
theorem rf_sgn_d {p : Nat} {x : Int} {n : Nat} (hA : ansS 32 (cutS S en) p = (x, (n : Int), 0)) (hn : n ≤ en) (hx : -2147483648 ≤ x ∧ x < 2147483648) (w : World) (h : RfAt w rb S en ⟨p, 0⟩) :
    Calls Tryz.prog 163 #[.pointer (some ⟨rb, 0, none⟩), .bool false] w fun e' w' => e' = .returned (.int .i64 x) ∧ RfAt w' rb S en ⟨n, 0⟩ ∧ Kr rb w w' := by
  have H := Lib.hid h
  have a3 := h.c3
  dsimp only at a3
  have hcr := cut_run S en h.le
  have hz := cut_size S en h.le
  have hmx : (S.extract 0 en).size ≤ maxLen := by rw [hz]; have := h.le; have := h.room; unfold maxLen; omega
  have HC := Lib.hid (fun (W : World) => refS64_any (S.extract 0 en) (p : Int) W hmx)
  have HC2 := Lib.hid (fun (W : World) => refS32_any (S.extract 0 en) (p : Int) W hmx)
  rw [cut_list] at HC HC2
  rw [hA] at HC2
  obtain ⟨⟨x6, n6, e6⟩, hA6⟩ : ∃ A, ansS 64 (cutS S en) p = A := ⟨_, rfl⟩
  rw [hA6] at HC
  have HN := Lib.hid hn
  have hwx : wrap64 x = x := by unfold wrap64; omega
  have hwx2 : IntKind.i64.wrap x = x := by rw [IntKind.wrap_i64]; omega
  clear h hA hA6 hn hz hmx hx
  go_enter Tryz.func163, Tryz.ntmps163
  go_upto_region 3 with fail
  clear a3
  refine wp_region_held_drew (S := fun W => W.cell? ⟨rb, 0, none⟩ = some (.string S) ∧ W.cell? ⟨rb, 1, none⟩ = some (.int .i64 (p : Int)) ∧ W.cell? ⟨rb, 2, none⟩ = some (.int .i64 (en : Int)) ∧ W.cell? ⟨rb, 3, none⟩ = some (.int .i64 0) ∧ W.heap[rb]? = some (.cells (boxF S en ⟨p, 0⟩) 151 (0, 0)) ∧ Below w.heap.size w W) (by kernel_rfl) ⟨H.out.c0, H.out.c1, H.out.c2, H.out.c3, H.out.box, (Below.refl _ _).drew⟩ (fun hHeld => ?_)
  refine ty 0 (some 17) (h := ?_)
  try simp only [zpA, zpB, zpC, zpD, zpE]
  refine ty 1 (some 18) (h := ?_)
  try simp only [zpA, zpB, zpC, zpD, zpE]
  refine ty 2 (some 19) (h := ?_)
  try simp only [zpA, zpB, zpC, zpD, zpE]
  refine ty 3 (some 20) (h := ?_)
  try simp only [zpA, zpB, zpC, zpD, zpE]
  refine ty 4 (some 21) (h := ?_)
  try simp only [zpA, zpB, zpC, zpD, zpE]
  refine ty 5 (some 22) (h := ?_)
  try simp only [zpA, zpB, zpC, zpD, zpE]
  refine ty 6 (some 23) (h := ?_)
  try simp only [zpA, zpB, zpC, zpD, zpE]
  refine ty 7 (some 24) (h := ?_)
  try simp only [zpA, zpB, zpC, zpD, zpE]
  refine ty 8 (some 25) (h := ?_)
  try simp only [zpA, zpB, zpC, zpD, zpE]
  refine ty 9 (some 26) (h := ?_)
  try simp only [zpA, zpB, zpC, zpD, zpE]
  refine ty 10 (some 27) (h := ?_)
  try simp only [zpA, zpB, zpC, zpD, zpE]
  refine ty 11 (some 28) (h := ?_)
  try simp only [zpA, zpB, zpC, zpD, zpE]
  refine ty 12 (some 29) (h := ?_)
  try simp only [zpA, zpB, zpC, zpD, zpE]
  refine wpAnyH_ready (rs := [13]) (by kernel_rfl) (by simp) ?_
  refine AllReadyH.cons (o := _) rfl (fun K hK => ?_) AllReadyH.nil
  go_simp
  go_at_call 211
  refine (HC.out _).mono ?_
  rintro en6 W6 ⟨rfl, rfl⟩
  go_wp2_with fail
  refine hK.out _ _ hHeld (fun hHeld => ?_)
  clear hK K
  try simp only [zpA, zpB, zpC, zpD, zpE]
  refine ty 14 (some 16) (h := ?_)
  try simp only [zpA, zpB, zpC, zpD, zpE]
  refine ty 15 (some 31) (h := ?_)
  try simp only [zpA, zpB, zpC, zpD, zpE]
  refine ty 16 (some 32) (h := ?_)
  try simp only [zpA, zpB, zpC, zpD, zpE]
  refine ty 17 (some 33) (h := ?_)
  try simp only [zpA, zpB, zpC, zpD, zpE]
  refine ty 18 (some 5) (h := ?_)
  try simp only [zpA, zpB, zpC, zpD, zpE]
  refine ty 19 (some 6) (h := ?_)
  try simp only [zpA, zpB, zpC, zpD, zpE]
  refine ty 20 (some 7) (h := ?_)
  try simp only [zpA, zpB, zpC, zpD, zpE]
  refine wpAnyH_done (by kernel_rfl) ?_ _
  have HR := Lib.hid (show RfAt _ rb S en ⟨p, 0⟩ from ⟨hHeld.2.2.2.2.1, H.out.le, H.out.pos, H.out.room⟩)
  have HB := Lib.hid hHeld.2.2.2.2.2
  clear hHeld
  obtain ⟨V2, hV2⟩ : ∃ V2, w.drew = V2 := ⟨_, rfl⟩
  rw [hV2] at HR HB ⊢
  clear hV2
  have H2 := HR
  have HB2 := HB
  clear HR HB
  go_upto_region 5 with fail
  refine wp_region_held_drew (S := fun W => W.cell? ⟨rb, 0, none⟩ = some (.string S) ∧ W.cell? ⟨rb, 1, none⟩ = some (.int .i64 (p : Int)) ∧ W.cell? ⟨rb, 2, none⟩ = some (.int .i64 (en : Int)) ∧ W.cell? ⟨rb, 3, none⟩ = some (.int .i64 0) ∧ W.heap[rb]? = some (.cells (boxF S en ⟨p, 0⟩) 151 (0, 0)) ∧ Below V2.heap.size V2 W) (by kernel_rfl) ⟨H2.out.c0, H2.out.c1, H2.out.c2, H2.out.c3, H2.out.box, (Below.refl _ _).drew⟩ (fun hHeld => ?_)
  refine ty 0 (some 37) (h := ?_)
  try simp only [zpA, zpB, zpC, zpD, zpE]
  refine ty 1 (some 38) (h := ?_)
  try simp only [zpA, zpB, zpC, zpD, zpE]
  refine ty 2 (some 39) (h := ?_)
  try simp only [zpA, zpB, zpC, zpD, zpE]
  refine ty 3 (some 40) (h := ?_)
  try simp only [zpA, zpB, zpC, zpD, zpE]
  refine ty 4 (some 41) (h := ?_)
  try simp only [zpA, zpB, zpC, zpD, zpE]
  refine ty 5 (some 42) (h := ?_)
  try simp only [zpA, zpB, zpC, zpD, zpE]
  refine ty 6 (some 43) (h := ?_)
  try simp only [zpA, zpB, zpC, zpD, zpE]
  refine ty 7 (some 44) (h := ?_)
  try simp only [zpA, zpB, zpC, zpD, zpE]
  refine ty 8 (some 45) (h := ?_)
  try simp only [zpA, zpB, zpC, zpD, zpE]
  refine ty 9 (some 46) (h := ?_)
  try simp only [zpA, zpB, zpC, zpD, zpE]
  refine ty 10 (some 47) (h := ?_)
  try simp only [zpA, zpB, zpC, zpD, zpE]
  refine ty 11 (some 48) (h := ?_)
  try simp only [zpA, zpB, zpC, zpD, zpE]
  refine ty 12 (some 49) (h := ?_)
  try simp only [zpA, zpB, zpC, zpD, zpE]
  refine wpAnyH_ready (rs := [13]) (by kernel_rfl) (by simp) ?_
  refine AllReadyH.cons (o := _) rfl (fun K hK => ?_) AllReadyH.nil
  go_simp
  go_at_call 212
  refine (HC2.out _).mono ?_
  rintro en6 W6 ⟨rfl, rfl⟩
  go_wp2_with fail
  refine hK.out _ _ hHeld (fun hHeld => ?_)
  clear hK K
  try simp only [zpA, zpB, zpC, zpD, zpE]
  refine ty 14 (some 36) (h := ?_)
  try simp only [zpA, zpB, zpC, zpD, zpE]
  refine ty 15 (some 51) (h := ?_)
  try simp only [zpA, zpB, zpC, zpD, zpE]
  refine ty 16 (some 52) (h := ?_)
  try simp only [zpA, zpB, zpC, zpD, zpE]
  refine ty 17 (some 53) (h := ?_)
  try simp only [zpA, zpB, zpC, zpD, zpE]
  refine ty 18 (some 8) (h := ?_)
  try simp only [zpA, zpB, zpC, zpD, zpE]
  refine ty 19 (some 9) (h := ?_)
  try simp only [zpA, zpB, zpC, zpD, zpE]
  refine ty 20 (some 10) (h := ?_)
  try simp only [zpA, zpB, zpC, zpD, zpE]
  refine wpAnyH_done (by kernel_rfl) ?_ _
  have HR := Lib.hid (show RfAt _ rb S en ⟨p, 0⟩ from ⟨hHeld.2.2.2.2.1, H2.out.le, H2.out.pos, H2.out.room⟩)
  have HB := Lib.hid hHeld.2.2.2.2.2
  clear hHeld
  have a1 := HR.out.c1
  have f1 := HR.out.fz 1
  dsimp only at a1
  have HS := Lib.hid (HR.out.setPos n HN.out)
  dsimp only at HS
  go_wp2_with fail
  go_ret
  exact ⟨rfl, HS.out, kr_trans (kr_trans (.of_below HB2.out) (.of_below HB.out)) (kr_set _ _ _ _)⟩
set_option maxRecDepth 100000 in
set_option maxHeartbeats 2000000 in
theorem rf_sgn_e {p : Nat} {x nx er : Int} (hA : ansS 32 (cutS S en) p = (x, nx, er)) (her : er ≠ 0) (w : World) (h : RfAt w rb S en ⟨p, 0⟩) :
    Calls Tryz.prog 163 #[.pointer (some ⟨rb, 0, none⟩), .bool false] w fun e' w' => e' = .returned (.int .i64 0) ∧ RfAt w' rb S en ⟨p, 2⟩ ∧ Kr rb w w' := by
  have H := Lib.hid h
  have a3 := h.c3
  dsimp only at a3
  have hcr := cut_run S en h.le
  have hz := cut_size S en h.le
  have hmx : (S.extract 0 en).size ≤ maxLen := by rw [hz]; have := h.le; have := h.room; unfold maxLen; omega
  have HC := Lib.hid (fun (W : World) => refS64_any (S.extract 0 en) (p : Int) W hmx)
  have HC2 := Lib.hid (fun (W : World) => refS32_any (S.extract 0 en) (p : Int) W hmx)
  rw [cut_list] at HC HC2
  rw [hA] at HC2
  obtain ⟨⟨x6, n6, e6⟩, hA6⟩ : ∃ A, ansS 64 (cutS S en) p = A := ⟨_, rfl⟩
  rw [hA6] at HC
  have hq : (er == 0) = false := beq_eq_false_iff_ne.2 her
  have hq2 : (er != 0) = true := bne_iff_ne.2 her
  clear h hA hA6 her hz hmx
  go_enter Tryz.func163, Tryz.ntmps163
  go_upto_region 3 with fail
  clear a3
  refine wp_region_held_drew (S := fun W => W.cell? ⟨rb, 0, none⟩ = some (.string S) ∧ W.cell? ⟨rb, 1, none⟩ = some (.int .i64 (p : Int)) ∧ W.cell? ⟨rb, 2, none⟩ = some (.int .i64 (en : Int)) ∧ W.cell? ⟨rb, 3, none⟩ = some (.int .i64 0) ∧ W.heap[rb]? = some (.cells (boxF S en ⟨p, 0⟩) 151 (0, 0)) ∧ Below w.heap.size w W) (by kernel_rfl) ⟨H.out.c0, H.out.c1, H.out.c2, H.out.c3, H.out.box, (Below.refl _ _).drew⟩ (fun hHeld => ?_)
  refine ty 0 (some 17) (h := ?_)
  try simp only [zpA, zpB, zpC, zpD, zpE]
  refine ty 1 (some 18) (h := ?_)
  try simp only [zpA, zpB, zpC, zpD, zpE]
  refine ty 2 (some 19) (h := ?_)
  try simp only [zpA, zpB, zpC, zpD, zpE]
  refine ty 3 (some 20) (h := ?_)
  try simp only [zpA, zpB, zpC, zpD, zpE]
  refine ty 4 (some 21) (h := ?_)
  try simp only [zpA, zpB, zpC, zpD, zpE]
  refine ty 5 (some 22) (h := ?_)
  try simp only [zpA, zpB, zpC, zpD, zpE]
  refine ty 6 (some 23) (h := ?_)
  try simp only [zpA, zpB, zpC, zpD, zpE]
  refine ty 7 (some 24) (h := ?_)
  try simp only [zpA, zpB, zpC, zpD, zpE]
  refine ty 8 (some 25) (h := ?_)
  try simp only [zpA, zpB, zpC, zpD, zpE]
  refine ty 9 (some 26) (h := ?_)
  try simp only [zpA, zpB, zpC, zpD, zpE]
  refine ty 10 (some 27) (h := ?_)
  try simp only [zpA, zpB, zpC, zpD, zpE]
  refine ty 11 (some 28) (h := ?_)
  try simp only [zpA, zpB, zpC, zpD, zpE]
  refine ty 12 (some 29) (h := ?_)
  try simp only [zpA, zpB, zpC, zpD, zpE]
  refine wpAnyH_ready (rs := [13]) (by kernel_rfl) (by simp) ?_
  refine AllReadyH.cons (o := _) rfl (fun K hK => ?_) AllReadyH.nil
  go_simp
  go_at_call 211
  refine (HC.out _).mono ?_
  rintro en6 W6 ⟨rfl, rfl⟩
  go_wp2_with fail
  refine hK.out _ _ hHeld (fun hHeld => ?_)
  clear hK K
  try simp only [zpA, zpB, zpC, zpD, zpE]
  refine ty 14 (some 16) (h := ?_)
  try simp only [zpA, zpB, zpC, zpD, zpE]
  refine ty 15 (some 31) (h := ?_)
  try simp only [zpA, zpB, zpC, zpD, zpE]
  refine ty 16 (some 32) (h := ?_)
  try simp only [zpA, zpB, zpC, zpD, zpE]
  refine ty 17 (some 33) (h := ?_)
  try simp only [zpA, zpB, zpC, zpD, zpE]
  refine ty 18 (some 5) (h := ?_)
  try simp only [zpA, zpB, zpC, zpD, zpE]
  refine ty 19 (some 6) (h := ?_)
  try simp only [zpA, zpB, zpC, zpD, zpE]
  refine ty 20 (some 7) (h := ?_)
  try simp only [zpA, zpB, zpC, zpD, zpE]
  refine wpAnyH_done (by kernel_rfl) ?_ _
  have HR := Lib.hid (show RfAt _ rb S en ⟨p, 0⟩ from ⟨hHeld.2.2.2.2.1, H.out.le, H.out.pos, H.out.room⟩)
  have HB := Lib.hid hHeld.2.2.2.2.2
  clear hHeld
  obtain ⟨V2, hV2⟩ : ∃ V2, w.drew = V2 := ⟨_, rfl⟩
  rw [hV2] at HR HB ⊢
  clear hV2
  have H2 := HR
  have HB2 := HB
  clear HR HB
  go_upto_region 5 with fail
  refine wp_region_held_drew (S := fun W => W.cell? ⟨rb, 0, none⟩ = some (.string S) ∧ W.cell? ⟨rb, 1, none⟩ = some (.int .i64 (p : Int)) ∧ W.cell? ⟨rb, 2, none⟩ = some (.int .i64 (en : Int)) ∧ W.cell? ⟨rb, 3, none⟩ = some (.int .i64 0) ∧ W.heap[rb]? = some (.cells (boxF S en ⟨p, 0⟩) 151 (0, 0)) ∧ Below V2.heap.size V2 W) (by kernel_rfl) ⟨H2.out.c0, H2.out.c1, H2.out.c2, H2.out.c3, H2.out.box, (Below.refl _ _).drew⟩ (fun hHeld => ?_)
  refine ty 0 (some 37) (h := ?_)
  try simp only [zpA, zpB, zpC, zpD, zpE]
  refine ty 1 (some 38) (h := ?_)
  try simp only [zpA, zpB, zpC, zpD, zpE]
  refine ty 2 (some 39) (h := ?_)
  try simp only [zpA, zpB, zpC, zpD, zpE]
  refine ty 3 (some 40) (h := ?_)
  try simp only [zpA, zpB, zpC, zpD, zpE]
  refine ty 4 (some 41) (h := ?_)
  try simp only [zpA, zpB, zpC, zpD, zpE]
  refine ty 5 (some 42) (h := ?_)
  try simp only [zpA, zpB, zpC, zpD, zpE]
  refine ty 6 (some 43) (h := ?_)
  try simp only [zpA, zpB, zpC, zpD, zpE]
  refine ty 7 (some 44) (h := ?_)
  try simp only [zpA, zpB, zpC, zpD, zpE]
  refine ty 8 (some 45) (h := ?_)
  try simp only [zpA, zpB, zpC, zpD, zpE]
  refine ty 9 (some 46) (h := ?_)
  try simp only [zpA, zpB, zpC, zpD, zpE]
  refine ty 10 (some 47) (h := ?_)
  try simp only [zpA, zpB, zpC, zpD, zpE]
  refine ty 11 (some 48) (h := ?_)
  try simp only [zpA, zpB, zpC, zpD, zpE]
  refine ty 12 (some 49) (h := ?_)
  try simp only [zpA, zpB, zpC, zpD, zpE]
  refine wpAnyH_ready (rs := [13]) (by kernel_rfl) (by simp) ?_
  refine AllReadyH.cons (o := _) rfl (fun K hK => ?_) AllReadyH.nil
  go_simp
  go_at_call 212
  refine (HC2.out _).mono ?_
  rintro en6 W6 ⟨rfl, rfl⟩
  go_wp2_with fail
  refine hK.out _ _ hHeld (fun hHeld => ?_)
  clear hK K
  try simp only [zpA, zpB, zpC, zpD, zpE]
  refine ty 14 (some 36) (h := ?_)
  try simp only [zpA, zpB, zpC, zpD, zpE]
  refine ty 15 (some 51) (h := ?_)
  try simp only [zpA, zpB, zpC, zpD, zpE]
  refine ty 16 (some 52) (h := ?_)
  try simp only [zpA, zpB, zpC, zpD, zpE]
  refine ty 17 (some 53) (h := ?_)
  try simp only [zpA, zpB, zpC, zpD, zpE]
  refine ty 18 (some 8) (h := ?_)
  try simp only [zpA, zpB, zpC, zpD, zpE]
  refine ty 19 (some 9) (h := ?_)
  try simp only [zpA, zpB, zpC, zpD, zpE]
  refine ty 20 (some 10) (h := ?_)
  try simp only [zpA, zpB, zpC, zpD, zpE]
  refine wpAnyH_done (by kernel_rfl) ?_ _
  have HR := Lib.hid (show RfAt _ rb S en ⟨p, 0⟩ from ⟨hHeld.2.2.2.2.1, H2.out.le, H2.out.pos, H2.out.room⟩)
  have HB := Lib.hid hHeld.2.2.2.2.2
  clear hHeld
  have a3 := HR.out.c3
  have f3 := HR.out.fz 3
  dsimp only at a3
  have HS := Lib.hid (HR.out.setE 2)
  go_wp2_with fail
  go_ret
  exact ⟨rfl, HS.out, kr_trans (kr_trans (.of_below HB2.out) (.of_below HB.out)) (kr_set _ _ _ _)⟩
set_option maxRecDepth 100000 in
set_option maxHeartbeats 2000000 in
theorem rf_sgn_c {p : Nat} {lo : Bool} {e : Int} (he : e ≠ 0) (w : World) (h : RfAt w rb S en ⟨p, e⟩) :
    Calls Tryz.prog 163 #[.pointer (some ⟨rb, 0, none⟩), .bool lo] w fun e' w' => e' = .returned (.int .i64 0) ∧ RfAt w' rb S en ⟨p, e⟩ ∧ Kr rb w w' := by
  have H := Lib.hid h
  have a3 := h.c3
  dsimp only at a3
  have hq : (e == 0) = false := beq_eq_false_iff_ne.2 he
  have hq2 : (e != 0) = true := bne_iff_ne.2 he
  clear h he
  go_enter Tryz.func163, Tryz.ntmps163
  go_wp2_with fail
  go_ret
  exact ⟨rfl, H.out, Kr.refl _ _⟩
theorem rf_signed (lo : Bool) (w : World) (h : RfAt w rb S en r) {N : Int} {q : RS} (hb : (if lo = true then s64P else s32P) (cutS S en) r = (N, q)) :
    Calls Tryz.prog 163 #[.pointer (some ⟨rb, 0, none⟩), .bool lo] w fun e w' => e = .returned (.int .i64 N) ∧ RfAt w' rb S en q ∧ Kr rb w w' := by
  obtain ⟨p, e⟩ := r
  have hp := h.pos
  have hl := cut_len (S := S) h.le
  by_cases he : e = 0
  · subst he
    cases lo with
    | true =>
      rw [if_pos rfl] at hb
      unfold s64P readP at hb
      rw [if_pos rfl] at hb
      dsimp only at hb
      obtain ⟨⟨x, nx, er⟩, hA⟩ : ∃ A, ansS 64 (cutS S en) p = A := ⟨_, rfl⟩
      rw [hA] at hb
      dsimp only at hb
      by_cases h0 : er = 0
      · subst h0
        rw [if_pos rfl] at hb
        obtain ⟨rfl, rfl⟩ := Prod.mk.inj hb
        obtain ⟨v, k, hv, hk, _, _, hle, _, _⟩ := ansS_facts hA
        obtain ⟨n, rfl⟩ : ∃ n : Nat, nx = (n : Int) := ⟨nx.toNat, by omega⟩
        rw [show ((n : Int)).toNat = n by omega]
        exact rf_sgn_a hA (by dsimp only at hp hle; omega) w h
      · rw [if_neg h0] at hb
        obtain ⟨rfl, rfl⟩ := Prod.mk.inj hb
        exact rf_sgn_b hA h0 w h
    | false =>
      rw [if_neg (by decide)] at hb
      unfold s32P readP at hb
      rw [if_pos rfl] at hb
      dsimp only at hb
      obtain ⟨⟨x, nx, er⟩, hA⟩ : ∃ A, ansS 32 (cutS S en) p = A := ⟨_, rfl⟩
      rw [hA] at hb
      dsimp only at hb
      by_cases h0 : er = 0
      · subst h0
        rw [if_pos rfl] at hb
        obtain ⟨rfl, rfl⟩ := Prod.mk.inj hb
        obtain ⟨v, k, hv, hk, _, _, hle, hv2, _⟩ := ansS_facts hA
        obtain ⟨n, rfl⟩ : ∃ n : Nat, nx = (n : Int) := ⟨nx.toNat, by omega⟩
        rw [show ((n : Int)).toNat = n by omega]
        exact rf_sgn_d hA (by dsimp only at hp hle; omega) (by rw [show (2 : Int) ^ (32 - 1) = 2147483648 by decide] at hv2; omega) w h
      · rw [if_neg h0] at hb
        obtain ⟨rfl, rfl⟩ := Prod.mk.inj hb
        exact rf_sgn_e hA h0 w h
  · have hq : (N, q) = (0, ⟨p, e⟩) := by
      rw [← hb]
      cases lo with
      | true =>
        rw [if_pos rfl]
        unfold s64P readP
        rw [if_neg he]
      | false =>
        rw [if_neg (by decide)]
        unfold s32P readP
        rw [if_neg he]
    obtain ⟨rfl, rfl⟩ := Prod.mk.inj hq
    exact rf_sgn_c he w h
def manyP (s : List UInt8) (r : RS) : Int × RS :=
  let n := numberP s r
  let q := failP (decide (4096 < n.1)) 5 n.2
  (if q.e = 0 then n.1 else 0, q)
set_option maxRecDepth 100000 in
set_option maxHeartbeats 2000000 in
theorem rf_many (w : World) (h : RfAt w rb S en r) {N : Int} {q : RS} (hb : manyP (cutS S en) r = (N, q)) :
    Calls Tryz.prog 85 #[.pointer (some ⟨rb, 0, none⟩)] w fun e w' => e = .returned (.int .i64 N) ∧ RfAt w' rb S en q ∧ Kr rb w w' := by
  obtain ⟨n, q1, hn⟩ : ∃ n q1, numberP (cutS S en) r = (n, q1) := ⟨_, _, rfl⟩
  unfold manyP at hb
  rw [hn] at hb
  dsimp only at hb
  have HN := Lib.hid (rf_number w h hn)
  clear h hn
  by_cases hl : 4096 < n
  · have hd : decide (4096 < n) = true := decide_eq_true hl
    rw [hd] at hb
    by_cases he : q1.e = 0
    · rw [fail_yes he] at hb
      rw [if_neg (by show ¬ (5 : Int) = 0; decide)] at hb
      obtain ⟨rfl, rfl⟩ := Prod.mk.inj hb
      have HF := Lib.hid (fun (W : World) (h : RfAt W rb S en q1) => rf_fails W h 5)
      rw [fail_yes he] at HF
      clear he hl hb
      go_enter Tryz.func85, Tryz.ntmps85
      go_wp2_with fail
      refine HN.out.mono ?_
      rintro e w2 ⟨rfl, h2, k2⟩
      have K2 := Lib.hid k2
      have HF2 := Lib.hid (HF.out _ h2)
      clear h2 k2
      go_wp2_with fail
      refine HF2.out.mono ?_
      rintro e w3 ⟨rfl, h3, k3⟩
      have a3 := h3.c3
      dsimp only at a3
      go_wp2_with fail
      go_ret
      exact ⟨rfl, h3, kr_trans K2.out k3⟩
    · rw [fail_no (.inr he), if_neg he] at hb
      obtain ⟨rfl, rfl⟩ := Prod.mk.inj hb
      have HF := Lib.hid (fun (W : World) (h : RfAt W rb S en q1) => rf_fails W h 5)
      rw [fail_no (.inr he)] at HF
      have hq : (q1.e == 0) = false := beq_eq_false_iff_ne.2 he
      have hq2 : (q1.e != 0) = true := bne_iff_ne.2 he
      clear he hl hb
      go_enter Tryz.func85, Tryz.ntmps85
      go_wp2_with fail
      refine HN.out.mono ?_
      rintro e w2 ⟨rfl, h2, k2⟩
      have K2 := Lib.hid k2
      have HF2 := Lib.hid (HF.out _ h2)
      clear h2 k2
      go_wp2_with fail
      refine HF2.out.mono ?_
      rintro e w3 ⟨rfl, h3, k3⟩
      have a3 := h3.c3
      go_wp2_with fail
      go_ret
      exact ⟨rfl, h3, kr_trans K2.out k3⟩
  · have hd : decide (4096 < n) = false := decide_eq_false hl
    rw [hd, fail_no (.inl rfl)] at hb
    by_cases he : q1.e = 0
    · rw [if_pos he] at hb
      obtain ⟨rfl, rfl⟩ := Prod.mk.inj hb
      have hq : (q1.e == 0) = true := by rw [he]; rfl
      have hq2 : (q1.e != 0) = false := by rw [he]; rfl
      clear he hl hb
      go_enter Tryz.func85, Tryz.ntmps85
      go_wp2_with fail
      refine HN.out.mono ?_
      rintro e w2 ⟨rfl, h2, k2⟩
      have a3 := h2.c3
      go_wp2_with fail
      go_ret
      exact ⟨rfl, h2, k2⟩
    · rw [if_neg he] at hb
      obtain ⟨rfl, rfl⟩ := Prod.mk.inj hb
      have hq : (q1.e == 0) = false := beq_eq_false_iff_ne.2 he
      have hq2 : (q1.e != 0) = true := bne_iff_ne.2 he
      clear he hl hb
      go_enter Tryz.func85, Tryz.ntmps85
      go_wp2_with fail
      refine HN.out.mono ?_
      rintro e w2 ⟨rfl, h2, k2⟩
      have a3 := h2.c3
      go_wp2_with fail
      go_ret
      exact ⟨rfl, h2, k2⟩
end Go.Proofs.YteidhccnbfikcaaGreatDoor.Dec
