/-
  DecA, DecList, DecB, DecC in one.
-/
import Derived.Test.YteidhccnbfikcaaGreatDoorDeP
import Derived.Test.YteidhccnbfikcaaGreatDoorEncInf
import Derived.Test.YteidhccnbfikcaaGreatDoorEnA
import Derived.Test.YteidhccnbfikcaaGreatDoorModIn
import Derived.Test.YteidhccnbfikcaaGreatDoorLbB
import Derived.Test.YteidhccnbfikcaaGreatDoorRg
import Derived.Deep.QuietTactic
import Derived.BigQuiet
import Derived.Test.YteidhccnbfikcaaGreatDoorModOwn
import Derived.Maps.Views
import Derived.Test.YteidhccnbfikcaaGreatDoorOpFloat
/- DecA: How a reader of chapter 6 lies; what fail, one, read and number do. No condition beyond what each theorem names. -/
namespace Go.Proofs.YteidhccnbfikcaaGreatDoor.Dec
open Go.RowKit Go.Maps Go.Proofs.YteidhccnbfikcaaGreatDoor.Op Go.Proofs.YteidhccnbfikcaaGreatDoor.Mod Go.Proofs.YteidhccnbfikcaaGreatDoor.Leb Go.Proofs.YteidhccnbfikcaaGreatDoor.Enc
set_option linter.unusedVariables false
set_option linter.unusedSimpArgs false
theorem ansU_facts {bits : Nat} {l : List UInt8} {p x nx : Int} (h : ansU bits l p = (x, nx, 0)) : ∃ v n : Nat, x = (v : Int) ∧ nx = p + n ∧ 0 < n ∧ 0 ≤ p ∧ p + n ≤ l.length ∧ v < 2 ^ bits ∧ readU bits (l.drop p.toNat) = some (v, n) := by
  unfold ansU at h
  split at h
  · simp at h
  · rename_i hp
    split at h
    · simp at h
    · rename_i v n hr
      simp only [Prod.mk.injEq] at h
      refine ⟨v, n, h.1.symm, h.2.1.symm, ?_⟩
      unfold readU at hr
      split at hr
      · cases hr
      · rename_i ds hds
        have hl := scan_len hds
        rw [Option.map_eq_some_iff] at hr
        obtain ⟨v', hv, he⟩ := hr
        simp only [Prod.mk.injEq] at he
        obtain ⟨rfl, rfl⟩ := he
        have hl3 := hl.2.2
        rw [List.length_drop] at hl3
        have hv2 : v' < 2 ^ bits := by
          unfold rdU at hv
          split at hv
          · obtain rfl := Option.some.inj hv; assumption
          · cases hv
        refine ⟨hl.1, by omega, by omega, hv2, ?_⟩
        unfold readU
        rw [hds]
        simp [hv]
theorem ansS_facts {bits : Nat} {l : List UInt8} {p x nx : Int} (h : ansS bits l p = (x, nx, 0)) : ∃ (v : Int) (n : Nat), x = v ∧ nx = p + n ∧ 0 < n ∧ 0 ≤ p ∧ p + n ≤ l.length ∧ (-(2 ^ (bits - 1) : Int) ≤ v ∧ v < (2 ^ (bits - 1) : Int)) ∧ readS bits (l.drop p.toNat) = some (v, n) := by
  unfold ansS at h
  split at h
  · simp at h
  · rename_i hp
    split at h
    · simp at h
    · rename_i v n hr
      simp only [Prod.mk.injEq] at h
      refine ⟨v, n, h.1.symm, h.2.1.symm, ?_⟩
      unfold readS at hr
      split at hr
      · cases hr
      · rename_i ds hds
        have hl := scan_len hds
        rw [Option.map_eq_some_iff] at hr
        obtain ⟨v', hv, he⟩ := hr
        simp only [Prod.mk.injEq] at he
        obtain ⟨rfl, rfl⟩ := he
        have hl3 := hl.2.2
        rw [List.length_drop] at hl3
        refine ⟨hl.1, by omega, by omega, (rdS_some hv).2, ?_⟩
        unfold readS
        rw [hds]
        simp [hv]
theorem read_u32_next {l : List UInt8} {p : Nat} {x nx er : Int} (h : ansU 32 l p = (x, nx, er)) (h0 : er = 0) : 0 ≤ nx := by
  subst h0
  obtain ⟨v, n, _, rfl, _⟩ := ansU_facts h
  omega
theorem read_i32_next {l : List UInt8} {p : Nat} {x nx er : Int} (h : ansS 32 l p = (x, nx, er)) (h0 : er = 0) : 0 ≤ nx := by
  subst h0
  obtain ⟨v, n, _, rfl, _⟩ := ansS_facts h
  omega
theorem read_i64_next {l : List UInt8} {p : Nat} {x nx er : Int} (h : ansS 64 l p = (x, nx, er)) (h0 : er = 0) : 0 ≤ nx := by
  subst h0
  obtain ⟨v, n, _, rfl, _⟩ := ansS_facts h
  omega
def boxR (s : ByteArray) (mb : Option Nat) (r : RS) : Array Value := #[.string s, .int .i64 (r.pos : Int), .int .i64 r.e, .map mb]
/-- the reader's box -/
structure RdAt (w : World) (rb : Nat) (s : ByteArray) (mb : Option Nat) (r : RS) : Prop where
  box : w.heap[rb]? = some (.cells (boxR s mb r) 137 (0, 0))
variable {w w' : World} {rb : Nat} {s : ByteArray} {mb : Option Nat} {r : RS}
theorem RdAt.lt (h : RdAt w rb s mb r) : rb < w.heap.size := (Array.getElem?_eq_some_iff.1 h.box).1
theorem RdAt.of (h : RdAt w rb s mb r) (he : w'.heap[rb]? = w.heap[rb]?) : RdAt w' rb s mb r := ⟨he.trans h.box⟩
theorem RdAt.later (h : RdAt w rb s mb r) (hb : Below w.heap.size w w') : RdAt w' rb s mb r := h.of (hb.block rb h.lt)
theorem RdAt.kept {F : Nat → Prop} (h : RdAt w rb s mb r) (hk : Keeps F w w') (hf : ¬ F rb) : RdAt w' rb s mb r := h.of (hk.block rb h.lt hf)
theorem RdAt.frozen (h : RdAt w rb s mb r) (j : Nat) : w.frozen? ⟨rb, j, none⟩ = false := frozen_of_row w rb j _ _ h.box
theorem RdAt.c0 (h : RdAt w rb s mb r) : w.cell? ⟨rb, 0, none⟩ = some (.string s) := by rw [cell_of_row w rb 0 _ _ _ h.box]; rfl
theorem RdAt.c1 (h : RdAt w rb s mb r) : w.cell? ⟨rb, 1, none⟩ = some (.int .i64 (r.pos : Int)) := by rw [cell_of_row w rb 1 _ _ _ h.box]; rfl
theorem RdAt.c2 (h : RdAt w rb s mb r) : w.cell? ⟨rb, 2, none⟩ = some (.int .i64 r.e) := by rw [cell_of_row w rb 2 _ _ _ h.box]; rfl
theorem RdAt.c3 (h : RdAt w rb s mb r) : w.cell? ⟨rb, 3, none⟩ = some (.map mb) := by rw [cell_of_row w rb 3 _ _ _ h.box]; rfl
theorem RdAt.setE (h : RdAt w rb s mb r) (c : Int) : RdAt (w.setCell ⟨rb, 2, none⟩ (.int .i64 c)) rb s mb ⟨r.pos, c⟩ := by
  refine ⟨?_⟩
  rw [box_set h.box]
  rfl
theorem RdAt.setPos (h : RdAt w rb s mb r) (k : Nat) : RdAt (w.setCell ⟨rb, 1, none⟩ (.int .i64 (k : Int))) rb s mb ⟨k, r.e⟩ := by
  refine ⟨?_⟩
  rw [box_set h.box]
  rfl
abbrev Kr (rb : Nat) (w w' : World) : Prop := Keeps (fun j => j = rb) w w'
theorem Kr.refl (rb : Nat) (w : World) : Kr rb w w := Keeps.refl _ _
theorem kr_trans {a b c : World} (h : Kr rb a b) (k : Kr rb b c) : Kr rb a c := h.trans k fun j hj => .inl hj
theorem kr_set (w : World) (rb j : Nat) (v : Value) : Kr rb w (w.setCell ⟨rb, j, none⟩ v) := Keeps.setCell (F := fun k => k = rb) _ _ _ rfl
theorem below_drewN {B : Nat} {a w : World} (h : Below B a w) (n : Nat) : Below B a (w.drewN n) := ⟨h.os, h.tape, h.output, h.size, h.block⟩
theorem kr_drewN (w : World) (n : Nat) : Kr rb w (w.drewN n) := .of_below (below_drewN (Below.refl _ _) n)
theorem kr_drew (w : World) : Kr rb w w.drew := .of_below (Below.refl _ _).drew
theorem fail_no {wrong : Bool} {c : Int} {r : RS} (h : wrong = false ∨ r.e ≠ 0) : failP wrong c r = r := by
  unfold failP
  rw [if_neg]
  rintro ⟨h1, h2⟩
  rcases h with h | h
  · rw [h1] at h; cases h
  · exact h h2
theorem fail_yes {c : Int} {r : RS} (h : r.e = 0) : failP true c r = ⟨r.pos, c⟩ := by
  unfold failP
  rw [if_pos ⟨rfl, h⟩]
set_option maxRecDepth 100000 in
set_option maxHeartbeats 1000000 in
theorem fail_any (wrong : Bool) (c : Int) (w : World) (h : RdAt w rb s mb r) :
    Calls Tryz.prog 75 #[.pointer (some ⟨rb, 0, none⟩), .bool wrong, .int .i64 c] w fun e w' => e = .returned (.tuple #[]) ∧ RdAt w' rb s mb (failP wrong c r) ∧ Kr rb w w' := by
  have c2 := h.c2
  have fz := h.frozen 2
  have H := Lib.hid h
  have HS := Lib.hid (h.setE c)
  have HN := Lib.hid (fun (hh : wrong = false ∨ r.e ≠ 0) => fail_no (c := c) hh)
  have HY := Lib.hid (fun (hh : r.e = 0) => fail_yes (c := c) hh)
  obtain ⟨p, e⟩ := r
  dsimp only at c2 HN HY
  clear h
  cases wrong
  · rw [HN.out (.inl rfl)]
    go_enter Tryz.func75, Tryz.ntmps75
    go_wp2_with fail
    go_end0
    exact ⟨rfl, H.out, Kr.refl _ _⟩
  · by_cases he : e = 0
    · rw [HY.out he]
      have hq : (e == 0) = true := by rw [he]; rfl
      clear he
      go_enter Tryz.func75, Tryz.ntmps75
      go_wp2_with fail
      go_end0
      exact ⟨rfl, HS.out, kr_set _ _ _ _⟩
    · rw [HN.out (.inr he)]
      have hq : (e == 0) = false := beq_eq_false_iff_ne.2 he
      clear he
      go_enter Tryz.func75, Tryz.ntmps75
      go_wp2_with fail
      go_end0
      exact ⟨rfl, H.out, Kr.refl _ _⟩
theorem index_str (s : ByteArray) (j : Nat) (x : UInt8) (hx : s.data.toList[j]? = some x) (W : World) : (Instr.index 9 (.string s) (.int .i64 (j : Int))).run Tryz.prog W = .ok (.int .u8 (x.toNat : Int)) W := by
  have hj : j < s.size := (List.getElem?_eq_some_iff.1 hx).1
  rw [run_index_string _ _ _ _ _ Tryz.underlying9, dif_pos ⟨by omega, by omega⟩]
  have h2 : s[((j : Int)).toNat]'(by simpa using hj) = x := by
    have h3 := (List.getElem?_eq_some_iff.1 hx).2
    rw [← h3]
    rfl
  rw [h2]
set_option maxRecDepth 100000 in
set_option maxHeartbeats 2000000 in
theorem one_any (w : World) (h : RdAt w rb s mb r) (hs : s.size ≤ 1000000000000000) (hp : r.pos ≤ s.size) :
    Calls Tryz.prog 74 #[.pointer (some ⟨rb, 0, none⟩)] w fun e w' => e = .returned (.int .u8 ((oneP s.data.toList r).1 : Int)) ∧ RdAt w' rb s mb (oneP s.data.toList r).2 ∧ Kr rb w w' := by
  have c0 := h.c0
  have c1 := h.c1
  have HF := Lib.hid (fun (b : Bool) => fail_any b 2 w.drew (h.of (w' := w.drew) rfl))
  have HL := Lib.hid (show s.data.toList.length = s.size from rfl)
  go_enter Tryz.func74, Tryz.ntmps74
  by_cases he : r.e = 0
  · by_cases hlt : r.pos < s.size
    · obtain ⟨x, hx⟩ : ∃ x, s.data.toList[r.pos]? = some x := ⟨_, List.getElem?_eq_getElem hlt⟩
      have hR : oneP s.data.toList r = (x.toNat, ⟨r.pos + 1, 0⟩) := by
        unfold oneP
        rw [if_pos he, if_pos (by rw [HL.out]; exact hlt), List.getD_eq_getElem?_getD, hx]
        rfl
      rw [hR]
      have hd : decide ((s.size : Int) ≤ (r.pos : Int)) = false := decide_eq_false (by omega)
      have hd2 : decide (s.size ≤ r.pos) = false := decide_eq_false (by omega)
      have HX := Lib.hid (index_str s r.pos x hx)
      have hf1 := HF.out false
      rw [fail_no (.inl rfl)] at hf1
      obtain ⟨p, e⟩ := r
      obtain rfl : e = 0 := he
      dsimp only at *
      have HF1 := Lib.hid hf1
      clear hf1
      have hw1 : wrap64 ((p : Int) + 1) = (p : Int) + 1 := by unfold wrap64; omega
      have hw2 : wrap64 ((p : Int) + 1 - 1) = (p : Int) := by unfold wrap64; omega
      have hwp : IntKind.i64.wrap (p : Int) = (p : Int) := by rw [IntKind.wrap_i64]; omega
      have HP := Lib.hid hlt
      clear hx hR hp h hlt HF
      go_upto_region 1 with fail
      go_still_tail 11, (by kernel_rfl)
      change wpList _ _ _ _ _ w.drew
      go_wp2_with fail
      refine HF1.out.mono ?_
      rintro e w2 ⟨rfl, h2, k2⟩
      have a0 := h2.c0
      have a1 := h2.c1
      have a2 := h2.c2
      have fz := h2.frozen 1
      have H2 := Lib.hid h2
      have h3 := h2.setPos (p + 1)
      rw [show ((p + 1 : Nat) : Int) = (p : Int) + 1 by omega] at h3
      have H3 := Lib.hid h3
      have K2 := Lib.hid (kr_trans (kr_drew w) k2)
      clear h2 k2 c0 c1 h3
      go_upto_region 5 with fail
      obtain ⟨W3, hW3⟩ : ∃ W3, w2.setCell ⟨rb, 1, none⟩ (.int .i64 ((p : Int) + 1)) = W3 := ⟨_, rfl⟩
      have K3 := Lib.hid (show Kr rb w W3 by rw [← hW3]; exact kr_trans K2.out (kr_set w2 rb 1 _))
      rw [hW3] at H3 ⊢
      have b0 := H3.out.c0
      have b1 := H3.out.c1
      have hix := HX.out
      clear hW3 a0 a1 a2 fz
      dsimp only at b1
      rw [show ((p + 1 : Nat) : Int) = (p : Int) + 1 by omega] at b1
      go_quiet (fail)
      go_wp2_with fail
      go_ret
      exact ⟨rfl, H3.out.of rfl, kr_trans K3.out (kr_drewN _ _)⟩
    · have hR : oneP s.data.toList r = (0, ⟨r.pos, 2⟩) := by
        unfold oneP
        rw [if_pos he, if_neg (by rw [HL.out]; exact hlt)]
      rw [hR]
      have hd : decide ((s.size : Int) ≤ (r.pos : Int)) = true := decide_eq_true (by omega)
      have hd2 : decide (s.size ≤ r.pos) = true := decide_eq_true (by omega)
      have hf1 := HF.out true
      rw [fail_yes he] at hf1
      obtain ⟨p, e⟩ := r
      dsimp only at *
      have HF1 := Lib.hid hf1
      clear hf1
      clear hR hp h he hlt HF
      go_upto_region 1 with fail
      go_still_tail 11, (by kernel_rfl)
      change wpList _ _ _ _ _ w.drew
      go_wp2_with fail
      refine HF1.out.mono ?_
      rintro e w2 ⟨rfl, h2, k2⟩
      have a2 := h2.c2
      have H2 := Lib.hid h2
      have K2 := Lib.hid (kr_trans (kr_drew w) k2)
      dsimp only at a2
      clear h2 k2 c0 c1
      go_wp2_with fail
      go_ret
      exact ⟨rfl, H2.out, K2.out⟩
  · have hR : oneP s.data.toList r = (0, r) := by
      unfold oneP
      rw [if_neg he]
    rw [hR]
    obtain ⟨b, hd⟩ : ∃ b, decide ((s.size : Int) ≤ (r.pos : Int)) = b := ⟨_, rfl⟩
    have hd2 : decide (s.size ≤ r.pos) = b := by rw [← hd]; exact decide_eq_decide.2 (by omega)
    have hf1 := HF.out b
    rw [fail_no (.inr he)] at hf1
    have hq : (r.e == 0) = false := beq_eq_false_iff_ne.2 he
    have hq2 : (r.e != 0) = true := bne_iff_ne.2 he
    obtain ⟨p, e⟩ := r
    dsimp only at *
    have HF1 := Lib.hid hf1
    clear hf1
    clear hR hp h he HF
    go_upto_region 1 with fail
    go_still_tail 11, (by kernel_rfl)
    change wpList _ _ _ _ _ w.drew
    go_wp2_with fail
    refine HF1.out.mono ?_
    rintro e1 w2 ⟨rfl, h2, k2⟩
    have a2 := h2.c2
    have H2 := Lib.hid h2
    have K2 := Lib.hid (kr_trans (kr_drew w) k2)
    dsimp only at a2
    clear h2 k2 c0 c1
    go_wp2_with fail
    go_ret
    exact ⟨rfl, H2.out, K2.out⟩
set_option maxRecDepth 100000 in
set_option maxHeartbeats 2000000 in
theorem read_u32 (w : World) (h : RdAt w rb s mb r) (hs : s.size ≤ 1000000000000000) :
    Calls Tryz.prog 206 #[.pointer (some ⟨rb, 0, none⟩), .func (.func 207) #[] #[]] w fun e w' => e = .returned (.int .u32 (readP (ansU 32) s.data.toList r).1) ∧ RdAt w' rb s mb (readP (ansU 32) s.data.toList r).2 ∧ Kr rb w w' := by
  have eg : ∀ args w, (callFunc 207 args).run Tryz.prog w = .ok (.enter 207 args) w := enters_of Tryz.func207 (by kernel_rfl) rfl
  have c0 := h.c0
  have c1 := h.c1
  have c2 := h.c2
  by_cases he : r.e = 0
  · have HQ := Lib.hid (fun W : World => U32_any s r.pos W (Nat.le_trans hs (by decide)))
    obtain ⟨⟨x, nx, er⟩, hA⟩ : ∃ A, ansU 32 s.data.toList r.pos = A := ⟨_, rfl⟩
    rw [hA] at HQ
    have HN := Lib.hid (show er = 0 → 0 ≤ nx from fun h0 => read_u32_next hA h0)
    by_cases h0 : er = 0
    · have hR : readP (ansU 32) s.data.toList r = (x, ⟨nx.toNat, 0⟩) := by
        unfold readP
        rw [if_pos he, hA, if_pos h0]
      rw [hR]
      obtain ⟨p, e⟩ := r
      obtain rfl : e = 0 := he
      obtain ⟨n, rfl⟩ : ∃ n : Nat, nx = (n : Int) := ⟨nx.toNat, by have := HN.out h0; omega⟩
      subst h0
      rw [show ((n : Int)).toNat = n by omega]
      dsimp only at *
      have H0 := Lib.hid h
      clear hR hA h
      go_enter Tryz.func206, Tryz.ntmps206
      go_upto_region 3 with fail
      refine wp_region_held_drew (S := fun W => W.cell? ⟨rb, 0, none⟩ = some (.string s) ∧ W.cell? ⟨rb, 1, none⟩ = some (.int .i64 (p : Int)) ∧ W.heap[rb]? = some (.cells (boxR s mb ⟨p, 0⟩) 137 (0, 0)) ∧ Below w.heap.size w W) (by kernel_rfl) ⟨c0, c1, H0.out.box, (Below.refl _ _).drew⟩ (fun hHeld => ?_)
      refine take_yes (i := 0) (d := (some 15)) (v := ?_) rfl (by kernel_rfl) (by kernel_rfl) (by kernel_rfl) rfl (fun _ _ _ h => h) (by rfl) (by assumption) ?_ ?_
      rotate_left
      · (intro w hSw; (try dsimp only at hSw); go_simp; try with_reducible rfl)
      try simp only [Act.put, List.setIfInBounds_toArray, List.set_cons_zero, List.set_cons_succ]
      refine take_yes (i := 1) (d := (some 16)) (v := ?_) rfl (by kernel_rfl) (by kernel_rfl) (by kernel_rfl) rfl (fun _ _ _ h => h) (by rfl) (by assumption) ?_ ?_
      rotate_left
      · (intro w hSw; (try dsimp only at hSw); go_simp; try with_reducible rfl)
      try simp only [Act.put, List.setIfInBounds_toArray, List.set_cons_zero, List.set_cons_succ]
      refine take_yes (i := 2) (d := (some 17)) (v := ?_) rfl (by kernel_rfl) (by kernel_rfl) (by kernel_rfl) rfl (fun _ _ _ h => h) (by rfl) (by assumption) ?_ ?_
      rotate_left
      · (intro w hSw; (try dsimp only at hSw); go_simp; try with_reducible rfl)
      try simp only [Act.put, List.setIfInBounds_toArray, List.set_cons_zero, List.set_cons_succ]
      refine take_yes (i := 3) (d := (some 18)) (v := ?_) rfl (by kernel_rfl) (by kernel_rfl) (by kernel_rfl) rfl (fun _ _ _ h => h) (by rfl) (by assumption) ?_ ?_
      rotate_left
      · (intro w hSw; (try dsimp only at hSw); go_simp; try with_reducible rfl)
      try simp only [Act.put, List.setIfInBounds_toArray, List.set_cons_zero, List.set_cons_succ]
      refine take_yes (i := 4) (d := (some 19)) (v := ?_) rfl (by kernel_rfl) (by kernel_rfl) (by kernel_rfl) rfl (fun _ _ _ h => h) (by rfl) (by assumption) ?_ ?_
      rotate_left
      · (intro w hSw; (try dsimp only at hSw); go_simp; try with_reducible rfl)
      try simp only [Act.put, List.setIfInBounds_toArray, List.set_cons_zero, List.set_cons_succ]
      refine take_yes (i := 5) (d := (some 20)) (v := ?_) rfl (by kernel_rfl) (by kernel_rfl) (by kernel_rfl) rfl (fun _ _ _ h => h) (by rfl) (by assumption) ?_ ?_
      rotate_left
      · (intro w hSw; (try dsimp only at hSw); go_simp; try with_reducible rfl)
      try simp only [Act.put, List.setIfInBounds_toArray, List.set_cons_zero, List.set_cons_succ]
      refine take_yes (i := 6) (d := (some 21)) (v := ?_) rfl (by kernel_rfl) (by kernel_rfl) (by kernel_rfl) rfl (fun _ _ _ h => h) (by rfl) (by assumption) ?_ ?_
      rotate_left
      · (intro w hSw; (try dsimp only at hSw); go_simp; try with_reducible rfl)
      try simp only [Act.put, List.setIfInBounds_toArray, List.set_cons_zero, List.set_cons_succ]
      refine take_yes (i := 7) (d := (some 22)) (v := ?_) rfl (by kernel_rfl) (by kernel_rfl) (by kernel_rfl) rfl (fun _ _ _ h => h) (by rfl) (by assumption) ?_ ?_
      rotate_left
      · (intro w hSw; (try dsimp only at hSw); go_simp; try with_reducible rfl)
      try simp only [Act.put, List.setIfInBounds_toArray, List.set_cons_zero, List.set_cons_succ]
      refine take_yes (i := 8) (d := (some 23)) (v := ?_) rfl (by kernel_rfl) (by kernel_rfl) (by kernel_rfl) rfl (fun _ _ _ h => h) (by rfl) (by assumption) ?_ ?_
      rotate_left
      · (intro w hSw; (try dsimp only at hSw); go_simp; try with_reducible rfl)
      try simp only [Act.put, List.setIfInBounds_toArray, List.set_cons_zero, List.set_cons_succ]
      refine wpAnyH_ready (rs := [9]) (by kernel_rfl) (by simp) ?_
      refine AllReadyH.cons (o := _) rfl (fun K hK => ?_) AllReadyH.nil
      go_simp
      go_at_fn 207
      refine (HQ.out _).mono ?_
      rintro en W6 ⟨rfl, rfl⟩
      go_wp2_with fail
      refine hK.out _ _ hHeld (fun hHeld => ?_)
      clear hK K
      try simp only [Act.put, List.setIfInBounds_toArray, List.set_cons_zero, List.set_cons_succ]
      refine take_yes (i := 10) (d := (some 14)) (v := ?_) rfl (by kernel_rfl) (by kernel_rfl) (by kernel_rfl) rfl (fun _ _ _ h => h) (by rfl) (by assumption) ?_ ?_
      rotate_left
      · (intro w hSw; (try dsimp only at hSw); go_simp; try with_reducible rfl)
      try simp only [Act.put, List.setIfInBounds_toArray, List.set_cons_zero, List.set_cons_succ]
      refine take_yes (i := 11) (d := (some 25)) (v := ?_) rfl (by kernel_rfl) (by kernel_rfl) (by kernel_rfl) rfl (fun _ _ _ h => h) (by rfl) (by assumption) ?_ ?_
      rotate_left
      · (intro w hSw; (try dsimp only at hSw); go_simp; try with_reducible rfl)
      try simp only [Act.put, List.setIfInBounds_toArray, List.set_cons_zero, List.set_cons_succ]
      refine take_yes (i := 12) (d := (some 26)) (v := ?_) rfl (by kernel_rfl) (by kernel_rfl) (by kernel_rfl) rfl (fun _ _ _ h => h) (by rfl) (by assumption) ?_ ?_
      rotate_left
      · (intro w hSw; (try dsimp only at hSw); go_simp; try with_reducible rfl)
      try simp only [Act.put, List.setIfInBounds_toArray, List.set_cons_zero, List.set_cons_succ]
      refine take_yes (i := 13) (d := (some 27)) (v := ?_) rfl (by kernel_rfl) (by kernel_rfl) (by kernel_rfl) rfl (fun _ _ _ h => h) (by rfl) (by assumption) ?_ ?_
      rotate_left
      · (intro w hSw; (try dsimp only at hSw); go_simp; try with_reducible rfl)
      try simp only [Act.put, List.setIfInBounds_toArray, List.set_cons_zero, List.set_cons_succ]
      refine take_yes (i := 14) (d := (some 5)) (v := ?_) rfl (by kernel_rfl) (by kernel_rfl) (by kernel_rfl) rfl (fun _ _ _ h => h) (by rfl) (by assumption) ?_ ?_
      rotate_left
      · (intro w hSw; (try dsimp only at hSw); go_simp; try with_reducible rfl)
      try simp only [Act.put, List.setIfInBounds_toArray, List.set_cons_zero, List.set_cons_succ]
      refine take_yes (i := 15) (d := (some 6)) (v := ?_) rfl (by kernel_rfl) (by kernel_rfl) (by kernel_rfl) rfl (fun _ _ _ h => h) (by rfl) (by assumption) ?_ ?_
      rotate_left
      · (intro w hSw; (try dsimp only at hSw); go_simp; try with_reducible rfl)
      try simp only [Act.put, List.setIfInBounds_toArray, List.set_cons_zero, List.set_cons_succ]
      refine take_yes (i := 16) (d := (some 7)) (v := ?_) rfl (by kernel_rfl) (by kernel_rfl) (by kernel_rfl) rfl (fun _ _ _ h => h) (by rfl) (by assumption) ?_ ?_
      rotate_left
      · (intro w hSw; (try dsimp only at hSw); go_simp; try with_reducible rfl)
      try simp only [Act.put, List.setIfInBounds_toArray, List.set_cons_zero, List.set_cons_succ]
      refine wpAnyH_done (by kernel_rfl) ?_ _
      have HR := Lib.hid (show RdAt _ rb s mb ⟨p, 0⟩ from ⟨hHeld.2.2.1⟩)
      have HB := Lib.hid hHeld.2.2.2
      have fz := HR.out.frozen 1
      have a1 := HR.out.c1
      have HS := Lib.hid (HR.out.setPos n)
      clear hHeld c0 c1 c2
      dsimp only at a1
      go_wp2_with fail
      go_ret
      exact ⟨rfl, HS.out, kr_trans (.of_below HB.out) (kr_set _ _ _ _)⟩
    · have hR : readP (ansU 32) s.data.toList r = (0, ⟨r.pos, 2⟩) := by
        unfold readP
        rw [if_pos he, hA, if_neg h0]
      rw [hR]
      obtain ⟨p, e⟩ := r
      obtain rfl : e = 0 := he
      dsimp only at *
      have hq : (er == 0) = false := beq_eq_false_iff_ne.2 h0
      have hq2 : (er != 0) = true := bne_iff_ne.2 h0
      have H0 := Lib.hid h
      clear hR hA h h0 HN
      go_enter Tryz.func206, Tryz.ntmps206
      go_upto_region 3 with fail
      refine wp_region_held_drew (S := fun W => W.cell? ⟨rb, 0, none⟩ = some (.string s) ∧ W.cell? ⟨rb, 1, none⟩ = some (.int .i64 (p : Int)) ∧ W.heap[rb]? = some (.cells (boxR s mb ⟨p, 0⟩) 137 (0, 0)) ∧ Below w.heap.size w W) (by kernel_rfl) ⟨c0, c1, H0.out.box, (Below.refl _ _).drew⟩ (fun hHeld => ?_)
      refine take_yes (i := 0) (d := (some 15)) (v := ?_) rfl (by kernel_rfl) (by kernel_rfl) (by kernel_rfl) rfl (fun _ _ _ h => h) (by rfl) (by assumption) ?_ ?_
      rotate_left
      · (intro w hSw; (try dsimp only at hSw); go_simp; try with_reducible rfl)
      try simp only [Act.put, List.setIfInBounds_toArray, List.set_cons_zero, List.set_cons_succ]
      refine take_yes (i := 1) (d := (some 16)) (v := ?_) rfl (by kernel_rfl) (by kernel_rfl) (by kernel_rfl) rfl (fun _ _ _ h => h) (by rfl) (by assumption) ?_ ?_
      rotate_left
      · (intro w hSw; (try dsimp only at hSw); go_simp; try with_reducible rfl)
      try simp only [Act.put, List.setIfInBounds_toArray, List.set_cons_zero, List.set_cons_succ]
      refine take_yes (i := 2) (d := (some 17)) (v := ?_) rfl (by kernel_rfl) (by kernel_rfl) (by kernel_rfl) rfl (fun _ _ _ h => h) (by rfl) (by assumption) ?_ ?_
      rotate_left
      · (intro w hSw; (try dsimp only at hSw); go_simp; try with_reducible rfl)
      try simp only [Act.put, List.setIfInBounds_toArray, List.set_cons_zero, List.set_cons_succ]
      refine take_yes (i := 3) (d := (some 18)) (v := ?_) rfl (by kernel_rfl) (by kernel_rfl) (by kernel_rfl) rfl (fun _ _ _ h => h) (by rfl) (by assumption) ?_ ?_
      rotate_left
      · (intro w hSw; (try dsimp only at hSw); go_simp; try with_reducible rfl)
      try simp only [Act.put, List.setIfInBounds_toArray, List.set_cons_zero, List.set_cons_succ]
      refine take_yes (i := 4) (d := (some 19)) (v := ?_) rfl (by kernel_rfl) (by kernel_rfl) (by kernel_rfl) rfl (fun _ _ _ h => h) (by rfl) (by assumption) ?_ ?_
      rotate_left
      · (intro w hSw; (try dsimp only at hSw); go_simp; try with_reducible rfl)
      try simp only [Act.put, List.setIfInBounds_toArray, List.set_cons_zero, List.set_cons_succ]
      refine take_yes (i := 5) (d := (some 20)) (v := ?_) rfl (by kernel_rfl) (by kernel_rfl) (by kernel_rfl) rfl (fun _ _ _ h => h) (by rfl) (by assumption) ?_ ?_
      rotate_left
      · (intro w hSw; (try dsimp only at hSw); go_simp; try with_reducible rfl)
      try simp only [Act.put, List.setIfInBounds_toArray, List.set_cons_zero, List.set_cons_succ]
      refine take_yes (i := 6) (d := (some 21)) (v := ?_) rfl (by kernel_rfl) (by kernel_rfl) (by kernel_rfl) rfl (fun _ _ _ h => h) (by rfl) (by assumption) ?_ ?_
      rotate_left
      · (intro w hSw; (try dsimp only at hSw); go_simp; try with_reducible rfl)
      try simp only [Act.put, List.setIfInBounds_toArray, List.set_cons_zero, List.set_cons_succ]
      refine take_yes (i := 7) (d := (some 22)) (v := ?_) rfl (by kernel_rfl) (by kernel_rfl) (by kernel_rfl) rfl (fun _ _ _ h => h) (by rfl) (by assumption) ?_ ?_
      rotate_left
      · (intro w hSw; (try dsimp only at hSw); go_simp; try with_reducible rfl)
      try simp only [Act.put, List.setIfInBounds_toArray, List.set_cons_zero, List.set_cons_succ]
      refine take_yes (i := 8) (d := (some 23)) (v := ?_) rfl (by kernel_rfl) (by kernel_rfl) (by kernel_rfl) rfl (fun _ _ _ h => h) (by rfl) (by assumption) ?_ ?_
      rotate_left
      · (intro w hSw; (try dsimp only at hSw); go_simp; try with_reducible rfl)
      try simp only [Act.put, List.setIfInBounds_toArray, List.set_cons_zero, List.set_cons_succ]
      refine wpAnyH_ready (rs := [9]) (by kernel_rfl) (by simp) ?_
      refine AllReadyH.cons (o := _) rfl (fun K hK => ?_) AllReadyH.nil
      go_simp
      go_at_fn 207
      refine (HQ.out _).mono ?_
      rintro en W6 ⟨rfl, rfl⟩
      go_wp2_with fail
      refine hK.out _ _ hHeld (fun hHeld => ?_)
      clear hK K
      try simp only [Act.put, List.setIfInBounds_toArray, List.set_cons_zero, List.set_cons_succ]
      refine take_yes (i := 10) (d := (some 14)) (v := ?_) rfl (by kernel_rfl) (by kernel_rfl) (by kernel_rfl) rfl (fun _ _ _ h => h) (by rfl) (by assumption) ?_ ?_
      rotate_left
      · (intro w hSw; (try dsimp only at hSw); go_simp; try with_reducible rfl)
      try simp only [Act.put, List.setIfInBounds_toArray, List.set_cons_zero, List.set_cons_succ]
      refine take_yes (i := 11) (d := (some 25)) (v := ?_) rfl (by kernel_rfl) (by kernel_rfl) (by kernel_rfl) rfl (fun _ _ _ h => h) (by rfl) (by assumption) ?_ ?_
      rotate_left
      · (intro w hSw; (try dsimp only at hSw); go_simp; try with_reducible rfl)
      try simp only [Act.put, List.setIfInBounds_toArray, List.set_cons_zero, List.set_cons_succ]
      refine take_yes (i := 12) (d := (some 26)) (v := ?_) rfl (by kernel_rfl) (by kernel_rfl) (by kernel_rfl) rfl (fun _ _ _ h => h) (by rfl) (by assumption) ?_ ?_
      rotate_left
      · (intro w hSw; (try dsimp only at hSw); go_simp; try with_reducible rfl)
      try simp only [Act.put, List.setIfInBounds_toArray, List.set_cons_zero, List.set_cons_succ]
      refine take_yes (i := 13) (d := (some 27)) (v := ?_) rfl (by kernel_rfl) (by kernel_rfl) (by kernel_rfl) rfl (fun _ _ _ h => h) (by rfl) (by assumption) ?_ ?_
      rotate_left
      · (intro w hSw; (try dsimp only at hSw); go_simp; try with_reducible rfl)
      try simp only [Act.put, List.setIfInBounds_toArray, List.set_cons_zero, List.set_cons_succ]
      refine take_yes (i := 14) (d := (some 5)) (v := ?_) rfl (by kernel_rfl) (by kernel_rfl) (by kernel_rfl) rfl (fun _ _ _ h => h) (by rfl) (by assumption) ?_ ?_
      rotate_left
      · (intro w hSw; (try dsimp only at hSw); go_simp; try with_reducible rfl)
      try simp only [Act.put, List.setIfInBounds_toArray, List.set_cons_zero, List.set_cons_succ]
      refine take_yes (i := 15) (d := (some 6)) (v := ?_) rfl (by kernel_rfl) (by kernel_rfl) (by kernel_rfl) rfl (fun _ _ _ h => h) (by rfl) (by assumption) ?_ ?_
      rotate_left
      · (intro w hSw; (try dsimp only at hSw); go_simp; try with_reducible rfl)
      try simp only [Act.put, List.setIfInBounds_toArray, List.set_cons_zero, List.set_cons_succ]
      refine take_yes (i := 16) (d := (some 7)) (v := ?_) rfl (by kernel_rfl) (by kernel_rfl) (by kernel_rfl) rfl (fun _ _ _ h => h) (by rfl) (by assumption) ?_ ?_
      rotate_left
      · (intro w hSw; (try dsimp only at hSw); go_simp; try with_reducible rfl)
      try simp only [Act.put, List.setIfInBounds_toArray, List.set_cons_zero, List.set_cons_succ]
      refine wpAnyH_done (by kernel_rfl) ?_ _
      have HR := Lib.hid (show RdAt _ rb s mb ⟨p, 0⟩ from ⟨hHeld.2.2.1⟩)
      have HB := Lib.hid hHeld.2.2.2
      have fz := HR.out.frozen 2
      have a2 := HR.out.c2
      have HS := Lib.hid (HR.out.setE 2)
      clear hHeld c0 c1 c2
      dsimp only at a2
      go_wp2_with fail
      go_ret
      exact ⟨rfl, HS.out, kr_trans (.of_below HB.out) (kr_set _ _ _ _)⟩
  · have hR : readP (ansU 32) s.data.toList r = (0, r) := by
      unfold readP
      rw [if_neg he]
    rw [hR]
    have hq : (r.e == 0) = false := beq_eq_false_iff_ne.2 he
    have hq2 : (r.e != 0) = true := bne_iff_ne.2 he
    have H0 := Lib.hid h
    obtain ⟨p, e⟩ := r
    dsimp only at *
    clear hR h he
    go_enter Tryz.func206, Tryz.ntmps206
    go_wp2_with fail
    go_ret
    exact ⟨rfl, H0.out, Kr.refl _ _⟩
set_option maxRecDepth 100000 in
set_option maxHeartbeats 2000000 in
theorem read_i32 (w : World) (h : RdAt w rb s mb r) (hs : s.size ≤ 1000000000000000) :
    Calls Tryz.prog 160 #[.pointer (some ⟨rb, 0, none⟩), .func (.func 161) #[] #[]] w fun e w' => e = .returned (.int .i32 (readP (ansS 32) s.data.toList r).1) ∧ RdAt w' rb s mb (readP (ansS 32) s.data.toList r).2 ∧ Kr rb w w' := by
  have eg : ∀ args w, (callFunc 161 args).run Tryz.prog w = .ok (.enter 161 args) w := enters_of Tryz.func161 (by kernel_rfl) rfl
  have c0 := h.c0
  have c1 := h.c1
  have c2 := h.c2
  by_cases he : r.e = 0
  · have HQ := Lib.hid (fun W : World => S32_any s r.pos W (Nat.le_trans hs (by decide)))
    obtain ⟨⟨x, nx, er⟩, hA⟩ : ∃ A, ansS 32 s.data.toList r.pos = A := ⟨_, rfl⟩
    rw [hA] at HQ
    have HN := Lib.hid (show er = 0 → 0 ≤ nx from fun h0 => read_i32_next hA h0)
    by_cases h0 : er = 0
    · have hR : readP (ansS 32) s.data.toList r = (x, ⟨nx.toNat, 0⟩) := by
        unfold readP
        rw [if_pos he, hA, if_pos h0]
      rw [hR]
      obtain ⟨p, e⟩ := r
      obtain rfl : e = 0 := he
      obtain ⟨n, rfl⟩ : ∃ n : Nat, nx = (n : Int) := ⟨nx.toNat, by have := HN.out h0; omega⟩
      subst h0
      rw [show ((n : Int)).toNat = n by omega]
      dsimp only at *
      have H0 := Lib.hid h
      clear hR hA h
      go_enter Tryz.func160, Tryz.ntmps160
      go_upto_region 3 with fail
      refine wp_region_held_drew (S := fun W => W.cell? ⟨rb, 0, none⟩ = some (.string s) ∧ W.cell? ⟨rb, 1, none⟩ = some (.int .i64 (p : Int)) ∧ W.heap[rb]? = some (.cells (boxR s mb ⟨p, 0⟩) 137 (0, 0)) ∧ Below w.heap.size w W) (by kernel_rfl) ⟨c0, c1, H0.out.box, (Below.refl _ _).drew⟩ (fun hHeld => ?_)
      refine take_yes (i := 0) (d := (some 15)) (v := ?_) rfl (by kernel_rfl) (by kernel_rfl) (by kernel_rfl) rfl (fun _ _ _ h => h) (by rfl) (by assumption) ?_ ?_
      rotate_left
      · (intro w hSw; (try dsimp only at hSw); go_simp; try with_reducible rfl)
      try simp only [Act.put, List.setIfInBounds_toArray, List.set_cons_zero, List.set_cons_succ]
      refine take_yes (i := 1) (d := (some 16)) (v := ?_) rfl (by kernel_rfl) (by kernel_rfl) (by kernel_rfl) rfl (fun _ _ _ h => h) (by rfl) (by assumption) ?_ ?_
      rotate_left
      · (intro w hSw; (try dsimp only at hSw); go_simp; try with_reducible rfl)
      try simp only [Act.put, List.setIfInBounds_toArray, List.set_cons_zero, List.set_cons_succ]
      refine take_yes (i := 2) (d := (some 17)) (v := ?_) rfl (by kernel_rfl) (by kernel_rfl) (by kernel_rfl) rfl (fun _ _ _ h => h) (by rfl) (by assumption) ?_ ?_
      rotate_left
      · (intro w hSw; (try dsimp only at hSw); go_simp; try with_reducible rfl)
      try simp only [Act.put, List.setIfInBounds_toArray, List.set_cons_zero, List.set_cons_succ]
      refine take_yes (i := 3) (d := (some 18)) (v := ?_) rfl (by kernel_rfl) (by kernel_rfl) (by kernel_rfl) rfl (fun _ _ _ h => h) (by rfl) (by assumption) ?_ ?_
      rotate_left
      · (intro w hSw; (try dsimp only at hSw); go_simp; try with_reducible rfl)
      try simp only [Act.put, List.setIfInBounds_toArray, List.set_cons_zero, List.set_cons_succ]
      refine take_yes (i := 4) (d := (some 19)) (v := ?_) rfl (by kernel_rfl) (by kernel_rfl) (by kernel_rfl) rfl (fun _ _ _ h => h) (by rfl) (by assumption) ?_ ?_
      rotate_left
      · (intro w hSw; (try dsimp only at hSw); go_simp; try with_reducible rfl)
      try simp only [Act.put, List.setIfInBounds_toArray, List.set_cons_zero, List.set_cons_succ]
      refine take_yes (i := 5) (d := (some 20)) (v := ?_) rfl (by kernel_rfl) (by kernel_rfl) (by kernel_rfl) rfl (fun _ _ _ h => h) (by rfl) (by assumption) ?_ ?_
      rotate_left
      · (intro w hSw; (try dsimp only at hSw); go_simp; try with_reducible rfl)
      try simp only [Act.put, List.setIfInBounds_toArray, List.set_cons_zero, List.set_cons_succ]
      refine take_yes (i := 6) (d := (some 21)) (v := ?_) rfl (by kernel_rfl) (by kernel_rfl) (by kernel_rfl) rfl (fun _ _ _ h => h) (by rfl) (by assumption) ?_ ?_
      rotate_left
      · (intro w hSw; (try dsimp only at hSw); go_simp; try with_reducible rfl)
      try simp only [Act.put, List.setIfInBounds_toArray, List.set_cons_zero, List.set_cons_succ]
      refine take_yes (i := 7) (d := (some 22)) (v := ?_) rfl (by kernel_rfl) (by kernel_rfl) (by kernel_rfl) rfl (fun _ _ _ h => h) (by rfl) (by assumption) ?_ ?_
      rotate_left
      · (intro w hSw; (try dsimp only at hSw); go_simp; try with_reducible rfl)
      try simp only [Act.put, List.setIfInBounds_toArray, List.set_cons_zero, List.set_cons_succ]
      refine take_yes (i := 8) (d := (some 23)) (v := ?_) rfl (by kernel_rfl) (by kernel_rfl) (by kernel_rfl) rfl (fun _ _ _ h => h) (by rfl) (by assumption) ?_ ?_
      rotate_left
      · (intro w hSw; (try dsimp only at hSw); go_simp; try with_reducible rfl)
      try simp only [Act.put, List.setIfInBounds_toArray, List.set_cons_zero, List.set_cons_succ]
      refine wpAnyH_ready (rs := [9]) (by kernel_rfl) (by simp) ?_
      refine AllReadyH.cons (o := _) rfl (fun K hK => ?_) AllReadyH.nil
      go_simp
      go_at_fn 161
      refine (HQ.out _).mono ?_
      rintro en W6 ⟨rfl, rfl⟩
      go_wp2_with fail
      refine hK.out _ _ hHeld (fun hHeld => ?_)
      clear hK K
      try simp only [Act.put, List.setIfInBounds_toArray, List.set_cons_zero, List.set_cons_succ]
      refine take_yes (i := 10) (d := (some 14)) (v := ?_) rfl (by kernel_rfl) (by kernel_rfl) (by kernel_rfl) rfl (fun _ _ _ h => h) (by rfl) (by assumption) ?_ ?_
      rotate_left
      · (intro w hSw; (try dsimp only at hSw); go_simp; try with_reducible rfl)
      try simp only [Act.put, List.setIfInBounds_toArray, List.set_cons_zero, List.set_cons_succ]
      refine take_yes (i := 11) (d := (some 25)) (v := ?_) rfl (by kernel_rfl) (by kernel_rfl) (by kernel_rfl) rfl (fun _ _ _ h => h) (by rfl) (by assumption) ?_ ?_
      rotate_left
      · (intro w hSw; (try dsimp only at hSw); go_simp; try with_reducible rfl)
      try simp only [Act.put, List.setIfInBounds_toArray, List.set_cons_zero, List.set_cons_succ]
      refine take_yes (i := 12) (d := (some 26)) (v := ?_) rfl (by kernel_rfl) (by kernel_rfl) (by kernel_rfl) rfl (fun _ _ _ h => h) (by rfl) (by assumption) ?_ ?_
      rotate_left
      · (intro w hSw; (try dsimp only at hSw); go_simp; try with_reducible rfl)
      try simp only [Act.put, List.setIfInBounds_toArray, List.set_cons_zero, List.set_cons_succ]
      refine take_yes (i := 13) (d := (some 27)) (v := ?_) rfl (by kernel_rfl) (by kernel_rfl) (by kernel_rfl) rfl (fun _ _ _ h => h) (by rfl) (by assumption) ?_ ?_
      rotate_left
      · (intro w hSw; (try dsimp only at hSw); go_simp; try with_reducible rfl)
      try simp only [Act.put, List.setIfInBounds_toArray, List.set_cons_zero, List.set_cons_succ]
      refine take_yes (i := 14) (d := (some 5)) (v := ?_) rfl (by kernel_rfl) (by kernel_rfl) (by kernel_rfl) rfl (fun _ _ _ h => h) (by rfl) (by assumption) ?_ ?_
      rotate_left
      · (intro w hSw; (try dsimp only at hSw); go_simp; try with_reducible rfl)
      try simp only [Act.put, List.setIfInBounds_toArray, List.set_cons_zero, List.set_cons_succ]
      refine take_yes (i := 15) (d := (some 6)) (v := ?_) rfl (by kernel_rfl) (by kernel_rfl) (by kernel_rfl) rfl (fun _ _ _ h => h) (by rfl) (by assumption) ?_ ?_
      rotate_left
      · (intro w hSw; (try dsimp only at hSw); go_simp; try with_reducible rfl)
      try simp only [Act.put, List.setIfInBounds_toArray, List.set_cons_zero, List.set_cons_succ]
      refine take_yes (i := 16) (d := (some 7)) (v := ?_) rfl (by kernel_rfl) (by kernel_rfl) (by kernel_rfl) rfl (fun _ _ _ h => h) (by rfl) (by assumption) ?_ ?_
      rotate_left
      · (intro w hSw; (try dsimp only at hSw); go_simp; try with_reducible rfl)
      try simp only [Act.put, List.setIfInBounds_toArray, List.set_cons_zero, List.set_cons_succ]
      refine wpAnyH_done (by kernel_rfl) ?_ _
      have HR := Lib.hid (show RdAt _ rb s mb ⟨p, 0⟩ from ⟨hHeld.2.2.1⟩)
      have HB := Lib.hid hHeld.2.2.2
      have fz := HR.out.frozen 1
      have a1 := HR.out.c1
      have HS := Lib.hid (HR.out.setPos n)
      clear hHeld c0 c1 c2
      dsimp only at a1
      go_wp2_with fail
      go_ret
      exact ⟨rfl, HS.out, kr_trans (.of_below HB.out) (kr_set _ _ _ _)⟩
    · have hR : readP (ansS 32) s.data.toList r = (0, ⟨r.pos, 2⟩) := by
        unfold readP
        rw [if_pos he, hA, if_neg h0]
      rw [hR]
      obtain ⟨p, e⟩ := r
      obtain rfl : e = 0 := he
      dsimp only at *
      have hq : (er == 0) = false := beq_eq_false_iff_ne.2 h0
      have hq2 : (er != 0) = true := bne_iff_ne.2 h0
      have H0 := Lib.hid h
      clear hR hA h h0 HN
      go_enter Tryz.func160, Tryz.ntmps160
      go_upto_region 3 with fail
      refine wp_region_held_drew (S := fun W => W.cell? ⟨rb, 0, none⟩ = some (.string s) ∧ W.cell? ⟨rb, 1, none⟩ = some (.int .i64 (p : Int)) ∧ W.heap[rb]? = some (.cells (boxR s mb ⟨p, 0⟩) 137 (0, 0)) ∧ Below w.heap.size w W) (by kernel_rfl) ⟨c0, c1, H0.out.box, (Below.refl _ _).drew⟩ (fun hHeld => ?_)
      refine take_yes (i := 0) (d := (some 15)) (v := ?_) rfl (by kernel_rfl) (by kernel_rfl) (by kernel_rfl) rfl (fun _ _ _ h => h) (by rfl) (by assumption) ?_ ?_
      rotate_left
      · (intro w hSw; (try dsimp only at hSw); go_simp; try with_reducible rfl)
      try simp only [Act.put, List.setIfInBounds_toArray, List.set_cons_zero, List.set_cons_succ]
      refine take_yes (i := 1) (d := (some 16)) (v := ?_) rfl (by kernel_rfl) (by kernel_rfl) (by kernel_rfl) rfl (fun _ _ _ h => h) (by rfl) (by assumption) ?_ ?_
      rotate_left
      · (intro w hSw; (try dsimp only at hSw); go_simp; try with_reducible rfl)
      try simp only [Act.put, List.setIfInBounds_toArray, List.set_cons_zero, List.set_cons_succ]
      refine take_yes (i := 2) (d := (some 17)) (v := ?_) rfl (by kernel_rfl) (by kernel_rfl) (by kernel_rfl) rfl (fun _ _ _ h => h) (by rfl) (by assumption) ?_ ?_
      rotate_left
      · (intro w hSw; (try dsimp only at hSw); go_simp; try with_reducible rfl)
      try simp only [Act.put, List.setIfInBounds_toArray, List.set_cons_zero, List.set_cons_succ]
      refine take_yes (i := 3) (d := (some 18)) (v := ?_) rfl (by kernel_rfl) (by kernel_rfl) (by kernel_rfl) rfl (fun _ _ _ h => h) (by rfl) (by assumption) ?_ ?_
      rotate_left
      · (intro w hSw; (try dsimp only at hSw); go_simp; try with_reducible rfl)
      try simp only [Act.put, List.setIfInBounds_toArray, List.set_cons_zero, List.set_cons_succ]
      refine take_yes (i := 4) (d := (some 19)) (v := ?_) rfl (by kernel_rfl) (by kernel_rfl) (by kernel_rfl) rfl (fun _ _ _ h => h) (by rfl) (by assumption) ?_ ?_
      rotate_left
      · (intro w hSw; (try dsimp only at hSw); go_simp; try with_reducible rfl)
      try simp only [Act.put, List.setIfInBounds_toArray, List.set_cons_zero, List.set_cons_succ]
      refine take_yes (i := 5) (d := (some 20)) (v := ?_) rfl (by kernel_rfl) (by kernel_rfl) (by kernel_rfl) rfl (fun _ _ _ h => h) (by rfl) (by assumption) ?_ ?_
      rotate_left
      · (intro w hSw; (try dsimp only at hSw); go_simp; try with_reducible rfl)
      try simp only [Act.put, List.setIfInBounds_toArray, List.set_cons_zero, List.set_cons_succ]
      refine take_yes (i := 6) (d := (some 21)) (v := ?_) rfl (by kernel_rfl) (by kernel_rfl) (by kernel_rfl) rfl (fun _ _ _ h => h) (by rfl) (by assumption) ?_ ?_
      rotate_left
      · (intro w hSw; (try dsimp only at hSw); go_simp; try with_reducible rfl)
      try simp only [Act.put, List.setIfInBounds_toArray, List.set_cons_zero, List.set_cons_succ]
      refine take_yes (i := 7) (d := (some 22)) (v := ?_) rfl (by kernel_rfl) (by kernel_rfl) (by kernel_rfl) rfl (fun _ _ _ h => h) (by rfl) (by assumption) ?_ ?_
      rotate_left
      · (intro w hSw; (try dsimp only at hSw); go_simp; try with_reducible rfl)
      try simp only [Act.put, List.setIfInBounds_toArray, List.set_cons_zero, List.set_cons_succ]
      refine take_yes (i := 8) (d := (some 23)) (v := ?_) rfl (by kernel_rfl) (by kernel_rfl) (by kernel_rfl) rfl (fun _ _ _ h => h) (by rfl) (by assumption) ?_ ?_
      rotate_left
      · (intro w hSw; (try dsimp only at hSw); go_simp; try with_reducible rfl)
      try simp only [Act.put, List.setIfInBounds_toArray, List.set_cons_zero, List.set_cons_succ]
      refine wpAnyH_ready (rs := [9]) (by kernel_rfl) (by simp) ?_
      refine AllReadyH.cons (o := _) rfl (fun K hK => ?_) AllReadyH.nil
      go_simp
      go_at_fn 161
      refine (HQ.out _).mono ?_
      rintro en W6 ⟨rfl, rfl⟩
      go_wp2_with fail
      refine hK.out _ _ hHeld (fun hHeld => ?_)
      clear hK K
      try simp only [Act.put, List.setIfInBounds_toArray, List.set_cons_zero, List.set_cons_succ]
      refine take_yes (i := 10) (d := (some 14)) (v := ?_) rfl (by kernel_rfl) (by kernel_rfl) (by kernel_rfl) rfl (fun _ _ _ h => h) (by rfl) (by assumption) ?_ ?_
      rotate_left
      · (intro w hSw; (try dsimp only at hSw); go_simp; try with_reducible rfl)
      try simp only [Act.put, List.setIfInBounds_toArray, List.set_cons_zero, List.set_cons_succ]
      refine take_yes (i := 11) (d := (some 25)) (v := ?_) rfl (by kernel_rfl) (by kernel_rfl) (by kernel_rfl) rfl (fun _ _ _ h => h) (by rfl) (by assumption) ?_ ?_
      rotate_left
      · (intro w hSw; (try dsimp only at hSw); go_simp; try with_reducible rfl)
      try simp only [Act.put, List.setIfInBounds_toArray, List.set_cons_zero, List.set_cons_succ]
      refine take_yes (i := 12) (d := (some 26)) (v := ?_) rfl (by kernel_rfl) (by kernel_rfl) (by kernel_rfl) rfl (fun _ _ _ h => h) (by rfl) (by assumption) ?_ ?_
      rotate_left
      · (intro w hSw; (try dsimp only at hSw); go_simp; try with_reducible rfl)
      try simp only [Act.put, List.setIfInBounds_toArray, List.set_cons_zero, List.set_cons_succ]
      refine take_yes (i := 13) (d := (some 27)) (v := ?_) rfl (by kernel_rfl) (by kernel_rfl) (by kernel_rfl) rfl (fun _ _ _ h => h) (by rfl) (by assumption) ?_ ?_
      rotate_left
      · (intro w hSw; (try dsimp only at hSw); go_simp; try with_reducible rfl)
      try simp only [Act.put, List.setIfInBounds_toArray, List.set_cons_zero, List.set_cons_succ]
      refine take_yes (i := 14) (d := (some 5)) (v := ?_) rfl (by kernel_rfl) (by kernel_rfl) (by kernel_rfl) rfl (fun _ _ _ h => h) (by rfl) (by assumption) ?_ ?_
      rotate_left
      · (intro w hSw; (try dsimp only at hSw); go_simp; try with_reducible rfl)
      try simp only [Act.put, List.setIfInBounds_toArray, List.set_cons_zero, List.set_cons_succ]
      refine take_yes (i := 15) (d := (some 6)) (v := ?_) rfl (by kernel_rfl) (by kernel_rfl) (by kernel_rfl) rfl (fun _ _ _ h => h) (by rfl) (by assumption) ?_ ?_
      rotate_left
      · (intro w hSw; (try dsimp only at hSw); go_simp; try with_reducible rfl)
      try simp only [Act.put, List.setIfInBounds_toArray, List.set_cons_zero, List.set_cons_succ]
      refine take_yes (i := 16) (d := (some 7)) (v := ?_) rfl (by kernel_rfl) (by kernel_rfl) (by kernel_rfl) rfl (fun _ _ _ h => h) (by rfl) (by assumption) ?_ ?_
      rotate_left
      · (intro w hSw; (try dsimp only at hSw); go_simp; try with_reducible rfl)
      try simp only [Act.put, List.setIfInBounds_toArray, List.set_cons_zero, List.set_cons_succ]
      refine wpAnyH_done (by kernel_rfl) ?_ _
      have HR := Lib.hid (show RdAt _ rb s mb ⟨p, 0⟩ from ⟨hHeld.2.2.1⟩)
      have HB := Lib.hid hHeld.2.2.2
      have fz := HR.out.frozen 2
      have a2 := HR.out.c2
      have HS := Lib.hid (HR.out.setE 2)
      clear hHeld c0 c1 c2
      dsimp only at a2
      go_wp2_with fail
      go_ret
      exact ⟨rfl, HS.out, kr_trans (.of_below HB.out) (kr_set _ _ _ _)⟩
  · have hR : readP (ansS 32) s.data.toList r = (0, r) := by
      unfold readP
      rw [if_neg he]
    rw [hR]
    have hq : (r.e == 0) = false := beq_eq_false_iff_ne.2 he
    have hq2 : (r.e != 0) = true := bne_iff_ne.2 he
    have H0 := Lib.hid h
    obtain ⟨p, e⟩ := r
    dsimp only at *
    clear hR h he
    go_enter Tryz.func160, Tryz.ntmps160
    go_wp2_with fail
    go_ret
    exact ⟨rfl, H0.out, Kr.refl _ _⟩
set_option maxRecDepth 100000 in
set_option maxHeartbeats 2000000 in
theorem read_i64 (w : World) (h : RdAt w rb s mb r) (hs : s.size ≤ 1000000000000000) :
    Calls Tryz.prog 158 #[.pointer (some ⟨rb, 0, none⟩), .func (.func 159) #[] #[]] w fun e w' => e = .returned (.int .i64 (readP (ansS 64) s.data.toList r).1) ∧ RdAt w' rb s mb (readP (ansS 64) s.data.toList r).2 ∧ Kr rb w w' := by
  have eg : ∀ args w, (callFunc 159 args).run Tryz.prog w = .ok (.enter 159 args) w := enters_of Tryz.func159 (by kernel_rfl) rfl
  have c0 := h.c0
  have c1 := h.c1
  have c2 := h.c2
  by_cases he : r.e = 0
  · have HQ := Lib.hid (fun W : World => S64_any s r.pos W (Nat.le_trans hs (by decide)))
    obtain ⟨⟨x, nx, er⟩, hA⟩ : ∃ A, ansS 64 s.data.toList r.pos = A := ⟨_, rfl⟩
    rw [hA] at HQ
    have HN := Lib.hid (show er = 0 → 0 ≤ nx from fun h0 => read_i64_next hA h0)
    by_cases h0 : er = 0
    · have hR : readP (ansS 64) s.data.toList r = (x, ⟨nx.toNat, 0⟩) := by
        unfold readP
        rw [if_pos he, hA, if_pos h0]
      rw [hR]
      obtain ⟨p, e⟩ := r
      obtain rfl : e = 0 := he
      obtain ⟨n, rfl⟩ : ∃ n : Nat, nx = (n : Int) := ⟨nx.toNat, by have := HN.out h0; omega⟩
      subst h0
      rw [show ((n : Int)).toNat = n by omega]
      dsimp only at *
      have H0 := Lib.hid h
      clear hR hA h
      go_enter Tryz.func158, Tryz.ntmps158
      go_upto_region 3 with fail
      refine wp_region_held_drew (S := fun W => W.cell? ⟨rb, 0, none⟩ = some (.string s) ∧ W.cell? ⟨rb, 1, none⟩ = some (.int .i64 (p : Int)) ∧ W.heap[rb]? = some (.cells (boxR s mb ⟨p, 0⟩) 137 (0, 0)) ∧ Below w.heap.size w W) (by kernel_rfl) ⟨c0, c1, H0.out.box, (Below.refl _ _).drew⟩ (fun hHeld => ?_)
      refine take_yes (i := 0) (d := (some 15)) (v := ?_) rfl (by kernel_rfl) (by kernel_rfl) (by kernel_rfl) rfl (fun _ _ _ h => h) (by rfl) (by assumption) ?_ ?_
      rotate_left
      · (intro w hSw; (try dsimp only at hSw); go_simp; try with_reducible rfl)
      try simp only [Act.put, List.setIfInBounds_toArray, List.set_cons_zero, List.set_cons_succ]
      refine take_yes (i := 1) (d := (some 16)) (v := ?_) rfl (by kernel_rfl) (by kernel_rfl) (by kernel_rfl) rfl (fun _ _ _ h => h) (by rfl) (by assumption) ?_ ?_
      rotate_left
      · (intro w hSw; (try dsimp only at hSw); go_simp; try with_reducible rfl)
      try simp only [Act.put, List.setIfInBounds_toArray, List.set_cons_zero, List.set_cons_succ]
      refine take_yes (i := 2) (d := (some 17)) (v := ?_) rfl (by kernel_rfl) (by kernel_rfl) (by kernel_rfl) rfl (fun _ _ _ h => h) (by rfl) (by assumption) ?_ ?_
      rotate_left
      · (intro w hSw; (try dsimp only at hSw); go_simp; try with_reducible rfl)
      try simp only [Act.put, List.setIfInBounds_toArray, List.set_cons_zero, List.set_cons_succ]
      refine take_yes (i := 3) (d := (some 18)) (v := ?_) rfl (by kernel_rfl) (by kernel_rfl) (by kernel_rfl) rfl (fun _ _ _ h => h) (by rfl) (by assumption) ?_ ?_
      rotate_left
      · (intro w hSw; (try dsimp only at hSw); go_simp; try with_reducible rfl)
      try simp only [Act.put, List.setIfInBounds_toArray, List.set_cons_zero, List.set_cons_succ]
      refine take_yes (i := 4) (d := (some 19)) (v := ?_) rfl (by kernel_rfl) (by kernel_rfl) (by kernel_rfl) rfl (fun _ _ _ h => h) (by rfl) (by assumption) ?_ ?_
      rotate_left
      · (intro w hSw; (try dsimp only at hSw); go_simp; try with_reducible rfl)
      try simp only [Act.put, List.setIfInBounds_toArray, List.set_cons_zero, List.set_cons_succ]
      refine take_yes (i := 5) (d := (some 20)) (v := ?_) rfl (by kernel_rfl) (by kernel_rfl) (by kernel_rfl) rfl (fun _ _ _ h => h) (by rfl) (by assumption) ?_ ?_
      rotate_left
      · (intro w hSw; (try dsimp only at hSw); go_simp; try with_reducible rfl)
      try simp only [Act.put, List.setIfInBounds_toArray, List.set_cons_zero, List.set_cons_succ]
      refine take_yes (i := 6) (d := (some 21)) (v := ?_) rfl (by kernel_rfl) (by kernel_rfl) (by kernel_rfl) rfl (fun _ _ _ h => h) (by rfl) (by assumption) ?_ ?_
      rotate_left
      · (intro w hSw; (try dsimp only at hSw); go_simp; try with_reducible rfl)
      try simp only [Act.put, List.setIfInBounds_toArray, List.set_cons_zero, List.set_cons_succ]
      refine take_yes (i := 7) (d := (some 22)) (v := ?_) rfl (by kernel_rfl) (by kernel_rfl) (by kernel_rfl) rfl (fun _ _ _ h => h) (by rfl) (by assumption) ?_ ?_
      rotate_left
      · (intro w hSw; (try dsimp only at hSw); go_simp; try with_reducible rfl)
      try simp only [Act.put, List.setIfInBounds_toArray, List.set_cons_zero, List.set_cons_succ]
      refine take_yes (i := 8) (d := (some 23)) (v := ?_) rfl (by kernel_rfl) (by kernel_rfl) (by kernel_rfl) rfl (fun _ _ _ h => h) (by rfl) (by assumption) ?_ ?_
      rotate_left
      · (intro w hSw; (try dsimp only at hSw); go_simp; try with_reducible rfl)
      try simp only [Act.put, List.setIfInBounds_toArray, List.set_cons_zero, List.set_cons_succ]
      refine wpAnyH_ready (rs := [9]) (by kernel_rfl) (by simp) ?_
      refine AllReadyH.cons (o := _) rfl (fun K hK => ?_) AllReadyH.nil
      go_simp
      go_at_fn 159
      refine (HQ.out _).mono ?_
      rintro en W6 ⟨rfl, rfl⟩
      go_wp2_with fail
      refine hK.out _ _ hHeld (fun hHeld => ?_)
      clear hK K
      try simp only [Act.put, List.setIfInBounds_toArray, List.set_cons_zero, List.set_cons_succ]
      refine take_yes (i := 10) (d := (some 14)) (v := ?_) rfl (by kernel_rfl) (by kernel_rfl) (by kernel_rfl) rfl (fun _ _ _ h => h) (by rfl) (by assumption) ?_ ?_
      rotate_left
      · (intro w hSw; (try dsimp only at hSw); go_simp; try with_reducible rfl)
      try simp only [Act.put, List.setIfInBounds_toArray, List.set_cons_zero, List.set_cons_succ]
      refine take_yes (i := 11) (d := (some 25)) (v := ?_) rfl (by kernel_rfl) (by kernel_rfl) (by kernel_rfl) rfl (fun _ _ _ h => h) (by rfl) (by assumption) ?_ ?_
      rotate_left
      · (intro w hSw; (try dsimp only at hSw); go_simp; try with_reducible rfl)
      try simp only [Act.put, List.setIfInBounds_toArray, List.set_cons_zero, List.set_cons_succ]
      refine take_yes (i := 12) (d := (some 26)) (v := ?_) rfl (by kernel_rfl) (by kernel_rfl) (by kernel_rfl) rfl (fun _ _ _ h => h) (by rfl) (by assumption) ?_ ?_
      rotate_left
      · (intro w hSw; (try dsimp only at hSw); go_simp; try with_reducible rfl)
      try simp only [Act.put, List.setIfInBounds_toArray, List.set_cons_zero, List.set_cons_succ]
      refine take_yes (i := 13) (d := (some 27)) (v := ?_) rfl (by kernel_rfl) (by kernel_rfl) (by kernel_rfl) rfl (fun _ _ _ h => h) (by rfl) (by assumption) ?_ ?_
      rotate_left
      · (intro w hSw; (try dsimp only at hSw); go_simp; try with_reducible rfl)
      try simp only [Act.put, List.setIfInBounds_toArray, List.set_cons_zero, List.set_cons_succ]
      refine take_yes (i := 14) (d := (some 5)) (v := ?_) rfl (by kernel_rfl) (by kernel_rfl) (by kernel_rfl) rfl (fun _ _ _ h => h) (by rfl) (by assumption) ?_ ?_
      rotate_left
      · (intro w hSw; (try dsimp only at hSw); go_simp; try with_reducible rfl)
      try simp only [Act.put, List.setIfInBounds_toArray, List.set_cons_zero, List.set_cons_succ]
      refine take_yes (i := 15) (d := (some 6)) (v := ?_) rfl (by kernel_rfl) (by kernel_rfl) (by kernel_rfl) rfl (fun _ _ _ h => h) (by rfl) (by assumption) ?_ ?_
      rotate_left
      · (intro w hSw; (try dsimp only at hSw); go_simp; try with_reducible rfl)
      try simp only [Act.put, List.setIfInBounds_toArray, List.set_cons_zero, List.set_cons_succ]
      refine take_yes (i := 16) (d := (some 7)) (v := ?_) rfl (by kernel_rfl) (by kernel_rfl) (by kernel_rfl) rfl (fun _ _ _ h => h) (by rfl) (by assumption) ?_ ?_
      rotate_left
      · (intro w hSw; (try dsimp only at hSw); go_simp; try with_reducible rfl)
      try simp only [Act.put, List.setIfInBounds_toArray, List.set_cons_zero, List.set_cons_succ]
      refine wpAnyH_done (by kernel_rfl) ?_ _
      have HR := Lib.hid (show RdAt _ rb s mb ⟨p, 0⟩ from ⟨hHeld.2.2.1⟩)
      have HB := Lib.hid hHeld.2.2.2
      have fz := HR.out.frozen 1
      have a1 := HR.out.c1
      have HS := Lib.hid (HR.out.setPos n)
      clear hHeld c0 c1 c2
      dsimp only at a1
      go_wp2_with fail
      go_ret
      exact ⟨rfl, HS.out, kr_trans (.of_below HB.out) (kr_set _ _ _ _)⟩
    · have hR : readP (ansS 64) s.data.toList r = (0, ⟨r.pos, 2⟩) := by
        unfold readP
        rw [if_pos he, hA, if_neg h0]
      rw [hR]
      obtain ⟨p, e⟩ := r
      obtain rfl : e = 0 := he
      dsimp only at *
      have hq : (er == 0) = false := beq_eq_false_iff_ne.2 h0
      have hq2 : (er != 0) = true := bne_iff_ne.2 h0
      have H0 := Lib.hid h
      clear hR hA h h0 HN
      go_enter Tryz.func158, Tryz.ntmps158
      go_upto_region 3 with fail
      refine wp_region_held_drew (S := fun W => W.cell? ⟨rb, 0, none⟩ = some (.string s) ∧ W.cell? ⟨rb, 1, none⟩ = some (.int .i64 (p : Int)) ∧ W.heap[rb]? = some (.cells (boxR s mb ⟨p, 0⟩) 137 (0, 0)) ∧ Below w.heap.size w W) (by kernel_rfl) ⟨c0, c1, H0.out.box, (Below.refl _ _).drew⟩ (fun hHeld => ?_)
      refine take_yes (i := 0) (d := (some 15)) (v := ?_) rfl (by kernel_rfl) (by kernel_rfl) (by kernel_rfl) rfl (fun _ _ _ h => h) (by rfl) (by assumption) ?_ ?_
      rotate_left
      · (intro w hSw; (try dsimp only at hSw); go_simp; try with_reducible rfl)
      try simp only [Act.put, List.setIfInBounds_toArray, List.set_cons_zero, List.set_cons_succ]
      refine take_yes (i := 1) (d := (some 16)) (v := ?_) rfl (by kernel_rfl) (by kernel_rfl) (by kernel_rfl) rfl (fun _ _ _ h => h) (by rfl) (by assumption) ?_ ?_
      rotate_left
      · (intro w hSw; (try dsimp only at hSw); go_simp; try with_reducible rfl)
      try simp only [Act.put, List.setIfInBounds_toArray, List.set_cons_zero, List.set_cons_succ]
      refine take_yes (i := 2) (d := (some 17)) (v := ?_) rfl (by kernel_rfl) (by kernel_rfl) (by kernel_rfl) rfl (fun _ _ _ h => h) (by rfl) (by assumption) ?_ ?_
      rotate_left
      · (intro w hSw; (try dsimp only at hSw); go_simp; try with_reducible rfl)
      try simp only [Act.put, List.setIfInBounds_toArray, List.set_cons_zero, List.set_cons_succ]
      refine take_yes (i := 3) (d := (some 18)) (v := ?_) rfl (by kernel_rfl) (by kernel_rfl) (by kernel_rfl) rfl (fun _ _ _ h => h) (by rfl) (by assumption) ?_ ?_
      rotate_left
      · (intro w hSw; (try dsimp only at hSw); go_simp; try with_reducible rfl)
      try simp only [Act.put, List.setIfInBounds_toArray, List.set_cons_zero, List.set_cons_succ]
      refine take_yes (i := 4) (d := (some 19)) (v := ?_) rfl (by kernel_rfl) (by kernel_rfl) (by kernel_rfl) rfl (fun _ _ _ h => h) (by rfl) (by assumption) ?_ ?_
      rotate_left
      · (intro w hSw; (try dsimp only at hSw); go_simp; try with_reducible rfl)
      try simp only [Act.put, List.setIfInBounds_toArray, List.set_cons_zero, List.set_cons_succ]
      refine take_yes (i := 5) (d := (some 20)) (v := ?_) rfl (by kernel_rfl) (by kernel_rfl) (by kernel_rfl) rfl (fun _ _ _ h => h) (by rfl) (by assumption) ?_ ?_
      rotate_left
      · (intro w hSw; (try dsimp only at hSw); go_simp; try with_reducible rfl)
      try simp only [Act.put, List.setIfInBounds_toArray, List.set_cons_zero, List.set_cons_succ]
      refine take_yes (i := 6) (d := (some 21)) (v := ?_) rfl (by kernel_rfl) (by kernel_rfl) (by kernel_rfl) rfl (fun _ _ _ h => h) (by rfl) (by assumption) ?_ ?_
      rotate_left
      · (intro w hSw; (try dsimp only at hSw); go_simp; try with_reducible rfl)
      try simp only [Act.put, List.setIfInBounds_toArray, List.set_cons_zero, List.set_cons_succ]
      refine take_yes (i := 7) (d := (some 22)) (v := ?_) rfl (by kernel_rfl) (by kernel_rfl) (by kernel_rfl) rfl (fun _ _ _ h => h) (by rfl) (by assumption) ?_ ?_
      rotate_left
      · (intro w hSw; (try dsimp only at hSw); go_simp; try with_reducible rfl)
      try simp only [Act.put, List.setIfInBounds_toArray, List.set_cons_zero, List.set_cons_succ]
      refine take_yes (i := 8) (d := (some 23)) (v := ?_) rfl (by kernel_rfl) (by kernel_rfl) (by kernel_rfl) rfl (fun _ _ _ h => h) (by rfl) (by assumption) ?_ ?_
      rotate_left
      · (intro w hSw; (try dsimp only at hSw); go_simp; try with_reducible rfl)
      try simp only [Act.put, List.setIfInBounds_toArray, List.set_cons_zero, List.set_cons_succ]
      refine wpAnyH_ready (rs := [9]) (by kernel_rfl) (by simp) ?_
      refine AllReadyH.cons (o := _) rfl (fun K hK => ?_) AllReadyH.nil
      go_simp
      go_at_fn 159
      refine (HQ.out _).mono ?_
      rintro en W6 ⟨rfl, rfl⟩
      go_wp2_with fail
      refine hK.out _ _ hHeld (fun hHeld => ?_)
      clear hK K
      try simp only [Act.put, List.setIfInBounds_toArray, List.set_cons_zero, List.set_cons_succ]
      refine take_yes (i := 10) (d := (some 14)) (v := ?_) rfl (by kernel_rfl) (by kernel_rfl) (by kernel_rfl) rfl (fun _ _ _ h => h) (by rfl) (by assumption) ?_ ?_
      rotate_left
      · (intro w hSw; (try dsimp only at hSw); go_simp; try with_reducible rfl)
      try simp only [Act.put, List.setIfInBounds_toArray, List.set_cons_zero, List.set_cons_succ]
      refine take_yes (i := 11) (d := (some 25)) (v := ?_) rfl (by kernel_rfl) (by kernel_rfl) (by kernel_rfl) rfl (fun _ _ _ h => h) (by rfl) (by assumption) ?_ ?_
      rotate_left
      · (intro w hSw; (try dsimp only at hSw); go_simp; try with_reducible rfl)
      try simp only [Act.put, List.setIfInBounds_toArray, List.set_cons_zero, List.set_cons_succ]
      refine take_yes (i := 12) (d := (some 26)) (v := ?_) rfl (by kernel_rfl) (by kernel_rfl) (by kernel_rfl) rfl (fun _ _ _ h => h) (by rfl) (by assumption) ?_ ?_
      rotate_left
      · (intro w hSw; (try dsimp only at hSw); go_simp; try with_reducible rfl)
      try simp only [Act.put, List.setIfInBounds_toArray, List.set_cons_zero, List.set_cons_succ]
      refine take_yes (i := 13) (d := (some 27)) (v := ?_) rfl (by kernel_rfl) (by kernel_rfl) (by kernel_rfl) rfl (fun _ _ _ h => h) (by rfl) (by assumption) ?_ ?_
      rotate_left
      · (intro w hSw; (try dsimp only at hSw); go_simp; try with_reducible rfl)
      try simp only [Act.put, List.setIfInBounds_toArray, List.set_cons_zero, List.set_cons_succ]
      refine take_yes (i := 14) (d := (some 5)) (v := ?_) rfl (by kernel_rfl) (by kernel_rfl) (by kernel_rfl) rfl (fun _ _ _ h => h) (by rfl) (by assumption) ?_ ?_
      rotate_left
      · (intro w hSw; (try dsimp only at hSw); go_simp; try with_reducible rfl)
      try simp only [Act.put, List.setIfInBounds_toArray, List.set_cons_zero, List.set_cons_succ]
      refine take_yes (i := 15) (d := (some 6)) (v := ?_) rfl (by kernel_rfl) (by kernel_rfl) (by kernel_rfl) rfl (fun _ _ _ h => h) (by rfl) (by assumption) ?_ ?_
      rotate_left
      · (intro w hSw; (try dsimp only at hSw); go_simp; try with_reducible rfl)
      try simp only [Act.put, List.setIfInBounds_toArray, List.set_cons_zero, List.set_cons_succ]
      refine take_yes (i := 16) (d := (some 7)) (v := ?_) rfl (by kernel_rfl) (by kernel_rfl) (by kernel_rfl) rfl (fun _ _ _ h => h) (by rfl) (by assumption) ?_ ?_
      rotate_left
      · (intro w hSw; (try dsimp only at hSw); go_simp; try with_reducible rfl)
      try simp only [Act.put, List.setIfInBounds_toArray, List.set_cons_zero, List.set_cons_succ]
      refine wpAnyH_done (by kernel_rfl) ?_ _
      have HR := Lib.hid (show RdAt _ rb s mb ⟨p, 0⟩ from ⟨hHeld.2.2.1⟩)
      have HB := Lib.hid hHeld.2.2.2
      have fz := HR.out.frozen 2
      have a2 := HR.out.c2
      have HS := Lib.hid (HR.out.setE 2)
      clear hHeld c0 c1 c2
      dsimp only at a2
      go_wp2_with fail
      go_ret
      exact ⟨rfl, HS.out, kr_trans (.of_below HB.out) (kr_set _ _ _ _)⟩
  · have hR : readP (ansS 64) s.data.toList r = (0, r) := by
      unfold readP
      rw [if_neg he]
    rw [hR]
    have hq : (r.e == 0) = false := beq_eq_false_iff_ne.2 he
    have hq2 : (r.e != 0) = true := bne_iff_ne.2 he
    have H0 := Lib.hid h
    obtain ⟨p, e⟩ := r
    dsimp only at *
    clear hR h he
    go_enter Tryz.func158, Tryz.ntmps158
    go_wp2_with fail
    go_ret
    exact ⟨rfl, H0.out, Kr.refl _ _⟩
theorem readU_bounds {bits : Nat} {l : List UInt8} {r : RS} (hp : r.pos ≤ l.length) : 0 ≤ (readP (ansU bits) l r).1 ∧ (readP (ansU bits) l r).1 < 2 ^ bits ∧ (readP (ansU bits) l r).2.pos ≤ l.length := by
  unfold readP
  have hpow : (0 : Int) < 2 ^ bits := Int.pow_pos (by decide)
  split
  · split
    · rename_i h1
      obtain ⟨x, nx, er⟩ : ∃ A, A = ansU bits l r.pos := ⟨_, rfl⟩
      have hA : ansU bits l r.pos = ((ansU bits l r.pos).1, (ansU bits l r.pos).2.1, 0) := by rw [← h1]
      obtain ⟨v, n, e1, e2, h3, h4, h5, h6, _⟩ := ansU_facts hA
      rw [e1, e2]
      refine ⟨by omega, ?_, ?_⟩
      · exact_mod_cast h6
      · show ((r.pos : Int) + n).toNat ≤ _
        omega
    · exact ⟨Int.le_refl _, hpow, hp⟩
  · exact ⟨Int.le_refl _, hpow, hp⟩
theorem readS_bounds {bits : Nat} {l : List UInt8} {r : RS} (hp : r.pos ≤ l.length) : -(2 ^ (bits - 1) : Int) ≤ (readP (ansS bits) l r).1 ∧ (readP (ansS bits) l r).1 < (2 ^ (bits - 1) : Int) ∧ (readP (ansS bits) l r).2.pos ≤ l.length := by
  unfold readP
  have hpow : (0 : Int) < 2 ^ (bits - 1) := Int.pow_pos (by decide)
  split
  · split
    · rename_i h1
      have hA : ansS bits l r.pos = ((ansS bits l r.pos).1, (ansS bits l r.pos).2.1, 0) := by rw [← h1]
      obtain ⟨v, n, e1, e2, h3, h4, h5, h6, _⟩ := ansS_facts hA
      rw [e1, e2]
      refine ⟨h6.1, h6.2, ?_⟩
      show ((r.pos : Int) + n).toNat ≤ _
      omega
    · exact ⟨by omega, hpow, hp⟩
  · exact ⟨by omega, hpow, hp⟩
theorem number_bounds {N : Int} {r1 : RS} (h : numberP s.data.toList r = (N, r1)) (hp : r.pos ≤ s.size) : 0 ≤ N ∧ N < 4294967296 ∧ r1.pos ≤ s.size := by
  have := readU_bounds (bits := 32) (l := s.data.toList) (r := r) hp
  unfold numberP at h
  rw [h] at this
  exact this
theorem one_bounds (s : ByteArray) (r : RS) (hp : r.pos ≤ s.size) : (oneP s.data.toList r).1 < 256 ∧ (oneP s.data.toList r).2.pos ≤ s.size := by
  have e : s.data.toList.length = s.size := rfl
  unfold oneP
  split
  · split
    · exact ⟨UInt8.toNat_lt _, by show r.pos + 1 ≤ _; omega⟩
    · exact ⟨show (0 : Nat) < 256 by decide, hp⟩
  · exact ⟨show (0 : Nat) < 256 by decide, hp⟩
set_option maxRecDepth 100000 in
set_option maxHeartbeats 1000000 in
theorem number_any (w : World) (h : RdAt w rb s mb r) (hs : s.size ≤ 1000000000000000) (hp : r.pos ≤ s.size) :
    Calls Tryz.prog 148 #[.pointer (some ⟨rb, 0, none⟩)] w fun e w' => e = .returned (.int .i64 (numberP s.data.toList r).1) ∧ RdAt w' rb s mb (numberP s.data.toList r).2 ∧ Kr rb w w' := by
  have hc := read_u32 w h hs
  obtain ⟨N, r1, hN⟩ : ∃ N r1, numberP s.data.toList r = (N, r1) := ⟨_, _, rfl⟩
  have hb := number_bounds hN hp
  change Calls _ _ _ _ (fun e w' => e = .returned (.int .u32 (numberP s.data.toList r).1) ∧ RdAt w' rb s mb (numberP s.data.toList r).2 ∧ Kr rb w w') at hc
  rw [hN] at hc ⊢
  have HC := Lib.hid hc
  have hw : wrap64 N = N := by unfold wrap64; omega
  have hw2 : IntKind.i64.wrap N = N := by rw [IntKind.wrap_i64]; omega
  clear hc hb hN h
  go_enter Tryz.func148, Tryz.ntmps148
  go_wp2_with fail
  refine HC.out.mono ?_
  rintro e w2 ⟨rfl, h2, k2⟩
  go_wp2_with fail
  go_ret
  exact ⟨rfl, h2, k2⟩
end Go.Proofs.YteidhccnbfikcaaGreatDoor.Dec

/- DecList: What package dec's list does at int, whatever reads one of them. No condition beyond what each theorem names. -/
namespace Go.Proofs.YteidhccnbfikcaaGreatDoor.Dec
open Go.RowKit Go.Maps Go.Proofs.YteidhccnbfikcaaGreatDoor.Op Go.Proofs.YteidhccnbfikcaaGreatDoor.Mod Go.Proofs.YteidhccnbfikcaaGreatDoor.Leb Go.Proofs.YteidhccnbfikcaaGreatDoor.Enc
set_option linter.unusedVariables false
set_option linter.unusedSimpArgs false
variable {w w' : World} {rb : Nat} {s : ByteArray} {mb : Option Nat} {r : RS}
theorem own_kept {F : Nat → Prop} {B : Nat} {e : TypeId} {size : Nat} {v : Value} {rows : List (List Value)} (h : OwnAt w B e size v rows) (hk : Keeps F w w') (hf : ∀ j, v.ownBlock = some j → ¬ F j) : OwnAt w' B e size v rows :=
  ⟨ownsRow_of h.1 (fun j hj => hk.block j (h.1.lt j hj).2 (hf j hj)), h.2⟩
theorem _root_.Go.Proofs.YteidhccnbfikcaaGreatDoor.Mod.Keeps.mono' {F G : Nat → Prop} (h : Keeps F w w') (hFG : ∀ k, F k → G k) : Keeps G w w' := ⟨h.os, h.tape, h.output, h.size, fun k hk hg => h.block k hk (fun hf => hg (hFG k hf))⟩
set_option maxRecDepth 100000 in
set_option maxHeartbeats 4000000 in
theorem declist_int {α : Type} (g : Nat) (lb : Array Value) (eg : ∀ args w, (callFunc g args).run Tryz.prog w = .ok (.enter g args) w) (onep : List UInt8 → RS → α × RS) (I : List (List Value) → List α → RS → World → Prop) (G : Nat → Prop) (w : World)
    (h : RdAt w rb s mb r) (hs : s.size ≤ 1000000000000000) (hp : r.pos ≤ s.size) (hG : ∀ k, G k → k < w.heap.size) (hrb : G rb) (hI : ∀ W r2, RdAt W rb s mb r2 → Kr rb w W → I [] [] r2 W)
    (hIk : ∀ rows out r2 W W' v rows', I rows out r2 W → w.heap.size ≤ W.heap.size → OwnAt W w.heap.size 3 1 v rows' → Keeps (fun j => v.ownBlock = some j) W W' → I rows out r2 W')
    (hone : ∀ W r2 rows out, RdAt W rb s mb r2 → r2.e = 0 → r2.pos ≤ s.size → I rows out r2 W → w.heap.size ≤ W.heap.size → out.length < 4096 → Calls Tryz.prog g (#[.pointer (some ⟨rb, 0, none⟩)] ++ lb) W fun e w' => ∃ (z0 : Int), e = .returned (.int .i64 z0) ∧ RdAt w' rb s mb (onep s.data.toList r2).2 ∧ I (rows ++ [[.int .i64 z0]]) (out ++ [(onep s.data.toList r2).1]) (onep s.data.toList r2).2 w' ∧ Keeps G W w')
    (hpos : ∀ r2 : RS, r2.pos ≤ s.size → (onep s.data.toList r2).2.pos ≤ s.size) :
    Calls Tryz.prog 157 #[.pointer (some ⟨rb, 0, none⟩), .func (.func g) #[] lb] w fun e w' => ∃ v, e = .returned v ∧ ∃ rows, OwnAt w' w.heap.size 3 1 v rows ∧ RdAt w' rb s mb (listP onep s.data.toList r).2 ∧ Keeps G w w' ∧ (rows.length ≤ 4096 ∧ rows.length = (listP onep s.data.toList r).1.length) ∧
      ((rows = [] ∧ (listP onep s.data.toList r).1 = [] ∧ (listP onep s.data.toList r).2.e ≠ 0 ∧ ∃ rows2 out2, I rows2 out2 (listP onep s.data.toList r).2 w') ∨ I rows (listP onep s.data.toList r).1 (listP onep s.data.toList r).2 w') := by
  obtain ⟨N, r1, hN⟩ : ∃ N r1, numberP s.data.toList r = (N, r1) := ⟨_, _, rfl⟩
  have hb := number_bounds hN hp
  have hcall := number_any w h hs hp
  rw [hN] at hcall
  obtain ⟨r3, hr3⟩ : ∃ r3, failP (decide (4096 < N)) 5 r1 = r3 := ⟨_, rfl⟩
  obtain ⟨RES, hRES⟩ : ∃ RES, listP onep s.data.toList r = RES := ⟨_, rfl⟩
  have hL : loopP onep s.data.toList N.toNat [] r3 = RES := by rw [← hRES, ← hr3]; unfold listP; rw [hN]
  have hlong : N ≤ 4096 ∨ r3.e ≠ 0 := by
    by_cases h1 : N ≤ 4096
    · exact .inl h1
    · right
      rw [← hr3, decide_eq_true (by omega)]
      unfold failP
      split
      · simp
      · rename_i h2
        simpa using h2
  have hp3 : r3.pos ≤ s.size := by
    rw [← hr3]
    unfold failP
    split <;> exact hb.2.2
  rw [hRES]
  obtain ⟨M, rfl⟩ : ∃ M : Nat, N = (M : Int) := ⟨N.toNat, by omega⟩
  have hM := hb.2.1
  rw [show ((M : Int)).toNat = M by omega] at hL
  have HC := Lib.hid hcall
  have HR3 := Lib.hid hr3
  have HS := Lib.hid hs
  have HG := Lib.hid hG
  have HRB := Lib.hid hrb
  have HIS := Lib.hid hI
  have HIK := Lib.hid hIk
  have HO := Lib.hid hone
  have HPS := Lib.hid hpos
  have HLL := Lib.hid hL
  have HLG := Lib.hid hlong
  have HP3 := Lib.hid hp3
  obtain ⟨g0, hg0⟩ : ∃ b, decide ((4096 : Int) < (M : Int)) = b := ⟨_, rfl⟩
  have hg1 : decide (4096 < M) = g0 := by rw [← hg0]; exact decide_eq_decide.2 (by omega)
  rw [hg0] at HR3
  clear hb hcall hr3 hs hG hrb hI hIk hone hpos hL hlong hp3 hp hRES hN h
  go_enter Tryz.func157, Tryz.ntmps157
  go_wp2_with fail
  refine HC.out.mono ?_
  rintro e w2 ⟨rfl, h2, k2⟩
  have K2 := Lib.hid k2
  have HF := Lib.hid (fail_any g0 5 w2 h2)
  rw [HR3.out] at HF
  clear h2 k2
  go_wp2_with fail
  refine HF.out.mono ?_
  rintro e w3 ⟨rfl, h3, k3⟩
  have K3 := Lib.hid (kr_trans K2.out k3)
  have H3 := Lib.hid h3
  clear h3 k3 hg0 hg1
  go_wp2_with fail
  have HI3 := Lib.hid (HIS.out w3 r3 H3.out K3.out)
  go_loopg [4, 13] M (fun gk s4 s13 wr => ∃ (k : Nat) (v : Value) (rows : List (List Value)) (out : List α) (rr : RS), v = s4 ∧ s13 = .int .i64 (k : Int) ∧ k ≤ M ∧ M - k ≤ gk ∧ rows.length = k ∧ out.length = k ∧ Hid (OwnAt wr w.heap.size 3 1 v rows) ∧ Hid (RdAt wr rb s mb rr) ∧ Hid (loopP onep s.data.toList (M - k) out rr = RES) ∧ Hid (I rows out rr wr) ∧ Hid (Keeps G w wr) ∧ Hid (M ≤ 4096 ∨ rr.e ≠ 0) ∧ Hid (rr.pos ≤ s.size) ∧ Hid (M ≤ 4096 ∨ k = 0))
  case atStart => exact ⟨0, .slice none 0 0, [], [], r3, rfl, rfl, Nat.zero_le _, by omega, rfl, rfl, Lib.hid (own_nil _ _ _ _), H3, Lib.hid (by rw [Nat.sub_zero]; exact HLL.out), HI3, Lib.hid (K3.out.mono' (fun k hk => hk ▸ HRB.out)), Lib.hid (by have := HLG.out; omega), HP3, Lib.hid (.inr rfl)⟩
  case round =>
    obtain ⟨k, v, rows, out, rr, rfl, rfl, hk, hgk, hrl, hol, HOW, HRD, HLP, HI4, HK4, HM4, HP4, HM5⟩ := hrel
    have hsz := HK4.out.size
    by_cases hlt : k < M
    · have hltz : (k : Int) < (M : Int) := by omega
      have c2 := HRD.out.c2
      by_cases he : rr.e = 0
      · have hq : (rr.e == 0) = true := by rw [he]; rfl
        have hM6 : M ≤ 4096 := HM4.out.elim id (fun h => absurd he h)
        have hcall := HO.out wr rr rows out HRD.out he HP4.out HI4.out hsz (by omega)
        have hstep : loopP onep s.data.toList (M - (k + 1)) (out ++ [(onep s.data.toList rr).1]) (onep s.data.toList rr).2 = RES := by
          rw [← HLP.out, show M - k = (M - (k + 1)) + 1 by omega]
          rw [loopP, if_pos he]
        have HST := Lib.hid hstep
        have HPN := Lib.hid (HPS.out rr HP4.out)
        have HRL := Lib.hid hrl
        have HOL := Lib.hid hol
        have HKM := Lib.hid (show k < M ∧ M ≤ 4096 from ⟨hlt, hM6⟩)
        have HGK := Lib.hid hgk
        have HSZ := Lib.hid hsz
        have HCL := Lib.hid hcall
        have hwk : wrap64 ((k : Int) + 1) = (k : Int) + 1 := by unfold wrap64; omega
        have HWK := Lib.hid hwk
        rw [he] at c2
        clear he hstep hrl hol hlt hM6 hgk hk hsz hcall hwk hq
        go_wp2_with fail
        go_at_fn g
        refine HCL.out.mono ?_
        rintro e w4 ⟨z0, rfl, h4, i4, k4⟩
        have H4 := Lib.hid h4
        have HI5 := Lib.hid i4
        have KK4 := Lib.hid k4
        have OW4 := Lib.hid (show OwnAt w4 w.heap.size 3 1 v rows from own_kept HOW.out k4 (fun j hj hg => by have := HG.out j hg; have := (HOW.out.1.lt j hj).1; omega))
        clear h4 i4 k4 c2
        go_wp2_with (at_builtin; refine wpList_put ty_int rfl _ _ rfl rfl OW4.out [.int .i64 z0] rfl rfl (by simp [Value.oneCell']) ⟨by have := HRL.out; have := HKM.out; omega, by decide⟩ (Nat.le_trans HSZ.out KK4.out.size) ?_)
        intro a cap w5 q1 q2 q3
        have OW5 := Lib.hid q1
        have HK5 := Lib.hid (show Keeps G w w5 from (keeps_then HK4.out KK4.out).trans q2 (fun j hj => .inr (OW4.out.1.lt j hj).1))
        have HI6 := Lib.hid (HIK.out _ _ _ w4 w5 v rows HI5.out (Nat.le_trans HSZ.out KK4.out.size) OW4.out q2)
        have H5 := Lib.hid (H4.out.kept q2 (fun e => by have := (OW4.out.1.lt rb e).1; have := HG.out rb HRB.out; omega))
        clear q1 q2 q3
        go_wp2_with fail
        go_roundg (M - (k + 1))
        case rel => exact ⟨k + 1, _, rows ++ [[.int .i64 z0]], out ++ [(onep s.data.toList rr).1], (onep s.data.toList rr).2, rfl, by go_num, HKM.out.1, Nat.le_refl _, by rw [List.length_append, HRL.out]; rfl, by rw [List.length_append, HOL.out]; rfl, OW5, H5, HST, HI6, HK5, Lib.hid (.inl HKM.out.2), HPN, Lib.hid (.inl HKM.out.2)⟩
        case measure => have := HKM.out; have := HGK.out; omega
      · have hq : (rr.e == 0) = false := beq_eq_false_iff_ne.2 he
        have hq2 : (rr.e != 0) = true := bne_iff_ne.2 he
        have hres : RES = ([], rr) := by
          rw [← HLP.out, show M - k = (M - (k + 1)) + 1 by omega]
          rw [loopP, if_neg he]
        have HE := Lib.hid he
        have HRES := Lib.hid hres
        obtain ⟨p, er⟩ := rr
        dsimp only at c2 hq hq2
        clear he hres hrl hol hlt hgk hk hsz
        go_wp2_with fail
        go_ret
        exact ⟨_, rfl, [], own_nil _ _ _ _, by rw [HRES.out]; exact HRD.out, HK4.out, ⟨Nat.zero_le _, by rw [HRES.out]; rfl⟩, .inl ⟨rfl, by rw [HRES.out], by rw [HRES.out]; exact HE.out, rows, out, by rw [HRES.out]; exact HI4.out⟩⟩
    · have hltz : ¬ (k : Int) < (M : Int) := by omega
      have hres : RES = (out, rr) := by
        rw [← HLP.out, show M - k = 0 by omega]
        rfl
      have HRES := Lib.hid hres
      have HRL := Lib.hid (show rows.length ≤ 4096 ∧ rows.length = out.length from ⟨by have := HM5.out; omega, by omega⟩)
      clear hres hrl hol hlt hgk hk hsz
      go_wp2_with fail
      go_ret
      exact ⟨v, rfl, rows, HOW.out, by rw [HRES.out]; exact HRD.out, HK4.out, by rw [HRES.out]; exact HRL.out, .inr (by rw [HRES.out]; exact HI4.out)⟩
end Go.Proofs.YteidhccnbfikcaaGreatDoor.Dec

/- DecB: What the reader's info does: what is kept of codes. No condition beyond what each theorem names. -/
namespace Go.Proofs.YteidhccnbfikcaaGreatDoor.Dec
open Go.RowKit Go.Maps Go.Proofs.YteidhccnbfikcaaGreatDoor.Op Go.Proofs.YteidhccnbfikcaaGreatDoor.Mod Go.Proofs.YteidhccnbfikcaaGreatDoor.Leb Go.Proofs.YteidhccnbfikcaaGreatDoor.Enc
set_option linter.unusedVariables false
set_option linter.unusedSimpArgs false
variable {w w' : World} {rb mb : Nat} {s : ByteArray} {r : RS}
/-- how many codes are kept -/
def kept (D : DataW Value) : Nat := (List.range 256).countP fun c : Nat => Maps.has D (.int .i64 (c : Int))
theorem kept_le (D : DataW Value) : kept D ≤ 256 := Nat.le_trans List.countP_le_length (by simp)
theorem count_more {p q : Nat → Bool} {l : List Nat} {c : Nat} (hc : c ∈ l) (hp : p c = false) (hq : q c = true) (hpq : ∀ x, p x = true → q x = true) : l.countP p + 1 ≤ l.countP q := by
  induction l with
  | nil => cases hc
  | cons x l ih =>
    have hmono : l.countP p ≤ l.countP q := List.countP_mono_left (fun x _ h => hpq x h)
    rw [List.countP_cons, List.countP_cons]
    rcases List.mem_cons.1 hc with rfl | hc
    · rw [hp, hq]
      simp
      omega
    · have := ih hc
      have h2 : (if p x = true then 1 else 0) ≤ (if q x = true then 1 else 0) := by
        cases hx : p x with
        | false => simp
        | true => rw [hpq x hx]; simp
      omega
/-- the infos: what is kept is what is known, of codes that there are -/
def InfD (w : World) (mb : Nat) : Prop := ∃ n D, w.ownsMap Tryz.prog 3 asIs mb n D ∧ InfosOk D ∧ (∀ code : Int, Maps.has D (.int .i64 code) = true → (opInfo code).isSome = true) ∧ n ≤ kept D
theorem infd_block (h : InfD w mb) : ∃ es cl, w.heap[mb]? = some (.map es cl) := by
  obtain ⟨n, D, ⟨es, clock, hb, _⟩, _⟩ := h
  exact ⟨es, clock, hb⟩
theorem InfD.lt (h : InfD w mb) : mb < w.heap.size := by
  obtain ⟨es, cl, hb⟩ := infd_block h
  exact (Array.getElem?_eq_some_iff.1 hb).1
theorem InfD.of (h : InfD w mb) (he : w'.heap[mb]? = w.heap[mb]?) : InfD w' mb := by
  obtain ⟨n, D, h1, h2⟩ := h
  exact ⟨n, D, ownsMap_of h1 he, h2⟩
theorem InfD.later (h : InfD w mb) (hb : Below w.heap.size w w') : InfD w' mb := h.of (hb.block mb h.lt)
theorem InfD.kept {F : Nat → Prop} (h : InfD w mb) (hk : Keeps F w w') (hf : ¬ F mb) : InfD w' mb := h.of (hk.block mb h.lt hf)
theorem rd_ne (h : RdAt w rb s (some mb) r) (hI : InfD w mb) : rb ≠ mb := by
  rintro rfl
  obtain ⟨es, cl, hb⟩ := infd_block hI
  have := h.box
  rw [hb] at this
  cases this
theorem put_ok {n : Nat} {D : DataW Value} {b : Nat} (hb : b < 256) (hD : InfosOk D) (hs : ∀ code : Int, Maps.has D (.int .i64 code) = true → (opInfo code).isSome = true) (hn : n ≤ Dec.kept D) (hno : Maps.has D (.int .i64 (b : Int)) = false) (hsome : (opInfo (b : Int)).isSome = true) :
    (∀ code : Int, Maps.has (D.put (.int .i64 (b : Int)) (.held ((opInfo (b : Int)).getD zeroI).toV)) (.int .i64 code) = true → (opInfo code).isSome = true) ∧ n + 1 ≤ Dec.kept (D.put (.int .i64 (b : Int)) (.held ((opInfo (b : Int)).getD zeroI).toV)) := by
  have hsame : Maps.has (D.put (.int .i64 (b : Int)) (.held ((opInfo (b : Int)).getD zeroI).toV)) (.int .i64 (b : Int)) = true := has_put_same hD.1 (by simp [WideAt.IsKeyLit]) _
  have hoth : ∀ m : Int, m ≠ (b : Int) → Maps.has (D.put (.int .i64 (b : Int)) (.held ((opInfo (b : Int)).getD zeroI).toV)) (.int .i64 m) = Maps.has D (.int .i64 m) := fun m hm => has_put_other (k := .int .i64 (b : Int)) (k' := .int .i64 m) (fun e => hm (by simpa using e)) _
  refine ⟨fun m hm => ?_, Nat.le_trans (Nat.succ_le_succ hn) (count_more (c := b) (List.mem_range.2 hb) hno hsame fun x hx => ?_)⟩
  · by_cases he : m = (b : Int)
    · rw [he]; exact hsome
    · rw [hoth m he] at hm
      exact hs m hm
  · by_cases he : (x : Int) = (b : Int)
    · rw [he]; exact hsame
    · rw [hoth _ he]; exact hx
/-- what is asked of the infos, and what they answer -/
theorem infd_look (h : InfD w mb) (code : Int) (hc : (Lit.int .i64 code).wf = true) : ∃ n D, w.ownsMap Tryz.prog 3 asIs mb n D ∧ InfosOk D ∧ (∀ code : Int, Maps.has D (.int .i64 code) = true → (opInfo code).isSome = true) ∧ n ≤ Dec.kept D ∧ (((opInfo code).isSome = true ∧ ∀ W, W.heap[mb]? = w.heap[mb]? → (Instr.lookup 85 (.map (some mb)) (.int .i64 code) true).run Tryz.prog W = .ok (.tuple #[((opInfo code).getD zeroI).toV, .bool true]) W) ∨ (Maps.has D (.int .i64 code) = false ∧ ∀ W, W.heap[mb]? = w.heap[mb]? → (Instr.lookup 85 (.map (some mb)) (.int .i64 code) true).run Tryz.prog W = .ok (.tuple #[zeroI.toV, .bool false]) W)) := by
  obtain ⟨n, D, h1, h2, h2b, h3⟩ := h
  refine ⟨n, D, h1, h2, h2b, h3, ?_⟩
  cases hh : Maps.has D (.int .i64 code) with
  | true =>
    refine .inl ⟨h2b code hh, fun W hW => ?_⟩
    obtain ⟨v, ps, hrun, hv⟩ := (ownsMap_of h1 hW).look_ok keyed_int Tryz.underlying85 (zero_info W) (show asIs zeroI.toV = some (.held zeroI.toV, []) from rfl) (key_int code hc)
    have hv2 : DataW.held v = D.atKey (.int .i64 code) (.held zeroI.toV) := congrArg Prod.fst (Option.some.inj hv)
    rw [h2.2 code _ hh] at hv2
    rw [held_inj hv2, hh] at hrun
    exact hrun
  | false =>
    refine .inr ⟨rfl, fun W hW => ?_⟩
    obtain ⟨v, ps, hrun, hv⟩ := (ownsMap_of h1 hW).look_ok keyed_int Tryz.underlying85 (zero_info W) (show asIs zeroI.toV = some (.held zeroI.toV, []) from rfl) (key_int code hc)
    have hv2 : DataW.held v = D.atKey (.int .i64 code) (.held zeroI.toV) := congrArg Prod.fst (Option.some.inj hv)
    rw [atKey_of_not_has hh] at hv2
    rw [held_inj hv2, hh] at hrun
    exact hrun
theorem kr_box {n0 : Nat} {F : Nat → Prop} {w w1 w2 : World} (hn : n0 = w.heap.size) (h1 : Keeps F w w1) (h2 : Keeps (fun j => j = n0) w1 w2) : Keeps F w w2 := h1.trans h2 fun j hj => .inr (by omega)
theorem set4 (w : World) (b : Nat) (a0 a1 a2 a3 u0 u1 u2 u3 : Value) (t : TypeId) (h : w.heap[b]? = some (.cells #[a0, a1, a2, a3] t (0, 0))) : ((((w.setCell ⟨b, 0, none⟩ u0).setCell ⟨b, 1, none⟩ u1).setCell ⟨b, 2, none⟩ u2).setCell ⟨b, 3, none⟩ u3).heap[b]? = some (.cells #[u0, u1, u2, u3] t (0, 0)) ∧ Keeps (fun j => j = b) w ((((w.setCell ⟨b, 0, none⟩ u0).setCell ⟨b, 1, none⟩ u1).setCell ⟨b, 2, none⟩ u2).setCell ⟨b, 3, none⟩ u3) :=
  ⟨box_set (box_set (box_set (box_set h 0 _) 1 _) 2 _) 3 _, Enc.keeps_then (Enc.keeps_then (Enc.keeps_then (Keeps.setCell _ _ _ rfl) (Keeps.setCell _ _ _ rfl)) (Keeps.setCell _ _ _ rfl)) (Keeps.setCell _ _ _ rfl)⟩
set_option maxRecDepth 100000 in
set_option maxHeartbeats 4000000 in
theorem info_any (b : Nat) (hb : b < 256) (w0 w : World) (hE : OpEnv w0) (hB : Below w0.heap.size w0 w) (hmb : w0.heap.size ≤ mb) (h : RdAt w rb s (some mb) r) (hI : InfD w mb) :
    Calls Tryz.prog 156 #[.pointer (some ⟨rb, 0, none⟩), .int .i64 (b : Int)] w fun e w' => e = .returned (.tuple #[((opInfo (b : Int)).getD zeroI).toV, .bool (opInfo (b : Int)).isSome]) ∧ InfD w' mb ∧ Keeps (fun j => j = mb) w w' := by
  have hcwf : (Lit.int .i64 (b : Int)).wf = true := by simp [Lit.wf, show IntKind.i64.min = -9223372036854775808 by decide, show IntKind.i64.max = 9223372036854775807 by decide]; omega
  obtain ⟨n, D, hown, hD, hsm, hnk, hlook⟩ := infd_look hI _ hcwf
  have hml := hI.lt
  have hrl := h.lt
  have hne := rd_ne h hI
  obtain ⟨W1, hW1⟩ : ∃ W1, w.alloc (.cells #[.string ⟨#[]⟩, .int .i64 0, .string ⟨#[]⟩, .string ⟨#[]⟩] 90) = W1 := ⟨_, rfl⟩
  have B1 : Below w.heap.size w W1 := by rw [← hW1]; exact (Below.refl _ _).alloc (Nat.le_refl _) _
  have z1 : W1.heap.size = w.heap.size + 1 := by rw [← hW1]; simp
  have row1 : W1.heap[w.heap.size]? = some (.cells #[.string ⟨#[]⟩, .int .i64 0, .string ⟨#[]⟩, .string ⟨#[]⟩] 90 (0, 0)) := by rw [← hW1]; exact heap_alloc_new _ _
  have c3 := (h.later B1).c3
  obtain ⟨i, hi⟩ : ∃ i, (opInfo (b : Int)).getD zeroI = i := ⟨_, rfl⟩
  have HII := Lib.hid hi
  rw [hi] at hlook ⊢
  obtain ⟨nm, sh, ps, rs⟩ := i
  unfold Info.toV at hlook ⊢
  dsimp only at hlook ⊢
  have HW1 := Lib.hid hW1
  have HB1 := Lib.hid B1
  have HZ1 := Lib.hid z1
  have HR1 := Lib.hid row1
  have HIF := Lib.hid hI
  clear hW1 hi
  rcases hlook with ⟨hsome, hrun⟩ | ⟨hhas, hrun⟩
  · have hrun1 := hrun W1 (B1.block mb hml)
    rw [hsome]
    obtain ⟨W2, hW2⟩ : ∃ W2, W1.alloc (.cells #[.string nm, .int .i64 sh, .string ps, .string rs] 90) = W2 := ⟨_, rfl⟩
    have B2 : Below W1.heap.size W1 W2 := by rw [← hW2]; exact (Below.refl _ _).alloc (Nat.le_refl _) _
    have row2 : W2.heap[W1.heap.size]? = some (.cells #[.string nm, .int .i64 sh, .string ps, .string rs] 90 (0, 0)) := by rw [← hW2]; exact heap_alloc_new _ _
    have row1b := (B2.block w.heap.size (by omega)).trans row1
    have HW2 := Lib.hid hW2
    have HS4 := Lib.hid (set4 W2 w.heap.size _ _ _ _ (.string nm) (.int .i64 sh) (.string ps) (.string rs) _ row1b)
    have HK2 := Lib.hid (show Keeps (fun j => j = mb) w W2 from (Keeps.of_below B1).trans (Keeps.of_below (F := fun j => j = mb) B2) (fun j hj => .inl hj))
    have B12 := Lib.hid (show Below w.heap.size w W2 from B1.trans (B2.mono (by omega)))
    have HML := Lib.hid hml
    have i0 := cell_of_row W2 _ 0 _ _ _ row2
    have i1 := cell_of_row W2 _ 1 _ _ _ row2
    have i2 := cell_of_row W2 _ 2 _ _ _ row2
    have i3 := cell_of_row W2 _ 3 _ _ _ row2
    have f0 := frozen_of_row W2 _ 0 _ _ row1b
    have f1 := frozen_of_row W2 _ 1 _ _ row1b
    have f2 := frozen_of_row W2 _ 2 _ _ row1b
    have f3 := frozen_of_row W2 _ 3 _ _ row1b
    have t0 : W2.cell? ⟨w.heap.size, 0, none⟩ = some (.string ⟨#[]⟩) := cell_of_row W2 _ 0 _ _ _ row1b
    have t1 : W2.cell? ⟨w.heap.size, 1, none⟩ = some (.int .i64 0) := cell_of_row W2 _ 1 _ _ _ row1b
    have t2 : W2.cell? ⟨w.heap.size, 2, none⟩ = some (.string ⟨#[]⟩) := cell_of_row W2 _ 2 _ _ _ row1b
    have t3 : W2.cell? ⟨w.heap.size, 3, none⟩ = some (.string ⟨#[]⟩) := cell_of_row W2 _ 3 _ _ _ row1b
    clear hown hD hsm hnk hrun hml hrl hne hsome hI h hE hB hmb B1 z1 row1 hW2 B2 row2 row1b hcwf hb HII
    go_enter Tryz.func156, Tryz.ntmps156
    go_upto_region 1 with fail
    rw [HW1.out]
    go_upto_region 2 with fail
    rw [HW2.out]
    clear c3 hrun1
    obtain ⟨W3, hW3⟩ : ∃ W3, (((W2.setCell ⟨w.heap.size, 0, none⟩ (.string nm)).setCell ⟨w.heap.size, 1, none⟩ (.int .i64 sh)).setCell ⟨w.heap.size, 2, none⟩ (.string ps)).setCell ⟨w.heap.size, 3, none⟩ (.string rs) = W3 := ⟨_, rfl⟩
    have hs4 := HS4.out
    rw [hW3] at hs4
    obtain ⟨row3, k3⟩ := hs4
    have HK3 := Lib.hid (kr_box rfl HK2.out k3)
    have r0 : W3.cell? ⟨w.heap.size, 0, none⟩ = some (.string nm) := cell_of_row W3 _ 0 _ _ _ row3
    have r1 : W3.cell? ⟨w.heap.size, 1, none⟩ = some (.int .i64 sh) := cell_of_row W3 _ 1 _ _ _ row3
    have r2 : W3.cell? ⟨w.heap.size, 2, none⟩ = some (.string ps) := cell_of_row W3 _ 2 _ _ _ row3
    have r3 : W3.cell? ⟨w.heap.size, 3, none⟩ = some (.string rs) := cell_of_row W3 _ 3 _ _ _ row3
    have HW3 := Lib.hid hW3
    have HIF3 := Lib.hid (show InfD W3 mb from (HIF.out.later (B12.out)).kept k3 (fun e => by have := HML.out; omega))
    clear hW3 row3 k3
    go_wp2_with fail
    rw [HW3.out]
    (try simp only [Exit.inBlock, Exit.then])
    refine bodyPost_ret (v := .tuple #[.agg #[.string nm, .int .i64 sh, .string ps, .string rs], .bool true]) (by simp [results, Tryz.results156, go_sem, r0, r1, r2, r3]) rfl ?_
    exact ⟨rfl, HIF3.out, HK3.out⟩
  · have hrun1 : (Instr.lookup 85 (.map (some mb)) (.int .i64 (b : Int)) true).run Tryz.prog W1 = .ok (.tuple #[.agg #[.string ⟨#[]⟩, .int .i64 0, .string ⟨#[]⟩, .string ⟨#[]⟩], .bool false]) W1 := hrun W1 (B1.block mb hml)
    obtain ⟨W2, hW2⟩ : ∃ W2, W1.alloc (.cells #[.string ⟨#[]⟩, .int .i64 0, .string ⟨#[]⟩, .string ⟨#[]⟩] 90) = W2 := ⟨_, rfl⟩
    have B2 : Below W1.heap.size W1 W2 := by rw [← hW2]; exact (Below.refl _ _).alloc (Nat.le_refl _) _
    have B12 : Below w.heap.size w W2 := B1.trans (B2.mono (by omega))
    have hof := of_any (b : Int) W2 (opEnv_later hE (hB.trans (B12.mono hB.size))) hcwf ⟨nm, sh, ps, rs⟩ _ HII.out rfl
    unfold Info.toV at hof
    dsimp only at hof
    have z2 : W2.heap.size = w.heap.size + 2 := by rw [← hW2]; simp; omega
    obtain ⟨bb, hbb⟩ : ∃ bb, (opInfo (b : Int)).isSome = bb := ⟨_, rfl⟩
    rw [hbb] at hof ⊢
    have HBB := Lib.hid hbb
    have HOF := Lib.hid hof
    have HW2 := Lib.hid hW2
    have H12 := Lib.hid B12
    have HZ2 := Lib.hid z2
    have row1b := (B2.block w.heap.size (by omega)).trans row1
    have HR2 := Lib.hid row1b
    have HC3 := Lib.hid ((h.later B12).c3)
    have HOWN := Lib.hid hown
    have HD := Lib.hid hD
    have HSM := Lib.hid hsm
    have HNK := Lib.hid hnk
    have HML := Lib.hid hml
    have HBL := Lib.hid hb
    have HWF := Lib.hid hcwf
    have HNO := Lib.hid hhas
    clear hown hD hsm hnk hrun hrl hne hI h hE hB hmb B1 z1 row1 hW2 B2 row1b hcwf hb hof hbb hhas B12 z2 hml
    go_enter Tryz.func156, Tryz.ntmps156
    go_upto_region 1 with fail
    rw [HW1.out]
    go_upto_region 2 with fail
    rw [HW2.out]
    clear c3 hrun1
    go_wp2_with fail
    refine HOF.out.mono ?_
    rintro e w3 ⟨rfl, b3⟩
    have B13 := Lib.hid (show Below w.heap.size w w3 from H12.out.trans (b3.mono (by have := HZ2.out; omega)))
    have row3 := (b3.block w.heap.size (by have := HZ2.out; omega)).trans HR2.out
    have z3 : w.heap.size + 2 ≤ w3.heap.size := by have := b3.size; have := HZ2.out; omega
    have c3 := cell_later b3 HC3.out
    go_upto_region 5 with fail
    obtain ⟨W4, hW4⟩ : ∃ W4, w3.alloc (.cells #[.string nm, .int .i64 sh, .string ps, .string rs] 90) = W4 := ⟨_, rfl⟩
    have B4 : Below w3.heap.size w3 W4 := by rw [← hW4]; exact (Below.refl _ _).alloc (Nat.le_refl _) _
    have row8 : W4.heap[w3.heap.size]? = some (.cells #[.string nm, .int .i64 sh, .string ps, .string rs] 90 (0, 0)) := by rw [← hW4]; exact heap_alloc_new _ _
    have row4 := (B4.block w.heap.size (by omega)).trans row3
    have B14 := Lib.hid (show Below w.heap.size w W4 from B13.out.trans (B4.mono B13.out.size))
    rw [hW4]
    replace c3 := cell_later B4 c3
    have HR4 := Lib.hid row4
    have HR8 := Lib.hid row8
    have HZ3 := Lib.hid z3
    clear hW4 row3 B4 row4 row8 b3 z3
    cases bb with
    | false =>
      have i0 := cell_of_row W4 _ 0 _ _ _ HR8.out
      have i1 := cell_of_row W4 _ 1 _ _ _ HR8.out
      have i2 := cell_of_row W4 _ 2 _ _ _ HR8.out
      have i3 := cell_of_row W4 _ 3 _ _ _ HR8.out
      have f0 := frozen_of_row W4 _ 0 _ _ HR4.out
      have f1 := frozen_of_row W4 _ 1 _ _ HR4.out
      have f2 := frozen_of_row W4 _ 2 _ _ HR4.out
      have f3 := frozen_of_row W4 _ 3 _ _ HR4.out
      have t0 : W4.cell? ⟨w.heap.size, 0, none⟩ = some (.string ⟨#[]⟩) := cell_of_row W4 _ 0 _ _ _ HR4.out
      have t1 : W4.cell? ⟨w.heap.size, 1, none⟩ = some (.int .i64 0) := cell_of_row W4 _ 1 _ _ _ HR4.out
      have t2 : W4.cell? ⟨w.heap.size, 2, none⟩ = some (.string ⟨#[]⟩) := cell_of_row W4 _ 2 _ _ _ HR4.out
      have t3 : W4.cell? ⟨w.heap.size, 3, none⟩ = some (.string ⟨#[]⟩) := cell_of_row W4 _ 3 _ _ _ HR4.out
      obtain ⟨W5, hW5⟩ : ∃ W5, (((W4.setCell ⟨w.heap.size, 0, none⟩ (.string nm)).setCell ⟨w.heap.size, 1, none⟩ (.int .i64 sh)).setCell ⟨w.heap.size, 2, none⟩ (.string ps)).setCell ⟨w.heap.size, 3, none⟩ (.string rs) = W5 := ⟨_, rfl⟩
      have hs4 := set4 W4 w.heap.size _ _ _ _ (.string nm) (.int .i64 sh) (.string ps) (.string rs) _ HR4.out
      rw [hW5] at hs4
      obtain ⟨row5, k5⟩ := hs4
      have HK5 := Lib.hid (kr_box rfl (Keeps.of_below (F := fun j => j = mb) B14.out) k5)
      have HIF5 := Lib.hid (show InfD W5 mb from (HIF.out.later B14.out).kept k5 (fun e => by have := HML.out; omega))
      have r0 : W5.cell? ⟨w.heap.size, 0, none⟩ = some (.string nm) := cell_of_row W5 _ 0 _ _ _ row5
      have r1 : W5.cell? ⟨w.heap.size, 1, none⟩ = some (.int .i64 sh) := cell_of_row W5 _ 1 _ _ _ row5
      have r2 : W5.cell? ⟨w.heap.size, 2, none⟩ = some (.string ps) := cell_of_row W5 _ 2 _ _ _ row5
      have r3 : W5.cell? ⟨w.heap.size, 3, none⟩ = some (.string rs) := cell_of_row W5 _ 3 _ _ _ row5
      have HW5 := Lib.hid hW5
      clear hW5 row5 k5 c3
      go_wp2_with fail
      rw [HW5.out]
      (try simp only [Exit.inBlock, Exit.then])
      refine bodyPost_ret (v := .tuple #[.agg #[.string nm, .int .i64 sh, .string ps, .string rs], .bool false]) (by simp [results, Tryz.results156, go_sem, r0, r1, r2, r3]) rfl ?_
      exact ⟨rfl, HIF5.out, HK5.out⟩
    | true =>
      have i0 : W4.drew.cell? ⟨w3.heap.size, 0, none⟩ = _ := cell_of_row W4 _ 0 _ _ _ HR8.out
      have i1 : W4.drew.cell? ⟨w3.heap.size, 1, none⟩ = _ := cell_of_row W4 _ 1 _ _ _ HR8.out
      have i2 : W4.drew.cell? ⟨w3.heap.size, 2, none⟩ = _ := cell_of_row W4 _ 2 _ _ _ HR8.out
      have i3 : W4.drew.cell? ⟨w3.heap.size, 3, none⟩ = _ := cell_of_row W4 _ 3 _ _ _ HR8.out
      have BD := (B14.out).drew
      obtain ⟨W5, hrun, hown, hgr⟩ := (ownsMap_of HOWN.out (BD.block mb HML.out)).update (val := .agg #[.string nm, .int .i64 sh, .string ps, .string rs]) keyed_int Tryz.underlying85 (by have h1 := HNK.out; have := Nat.le_trans h1 (kept_le _); unfold maxLen; omega) (key_int (b : Int) HWF.out) rfl
      have hok := infos_put HD.out (b : Int)
      have hpo := put_ok HBL.out HD.out HSM.out HNK.out HNO.out HBB.out
      rw [HII.out] at hok hpo
      have k5 := Keeps.grown (F := fun j => j = mb) hgr (fun j hj => (Option.some.inj hj).symm)
      have HIW := Lib.hid (show InfD W5 mb from ⟨_, _, hown, hok, hpo.1, hpo.2⟩)
      have HRUN := Lib.hid hrun
      have HR4b := Lib.hid (show W5.heap[w.heap.size]? = _ from (k5.block w.heap.size (show w.heap.size < W4.heap.size from (Array.getElem?_eq_some_iff.1 HR4.out).1) (by have := HML.out; omega)).trans HR4.out)
      have HR8b := Lib.hid (show W5.heap[w3.heap.size]? = _ from (k5.block w3.heap.size (show w3.heap.size < W4.heap.size from (Array.getElem?_eq_some_iff.1 HR8.out).1) (by have := HML.out; have := HZ3.out; omega)).trans HR8.out)
      have HK5 := Lib.hid ((Keeps.of_below (F := fun j => j = mb) BD).trans k5 (fun j hj => .inl hj))
      clear hown hgr hok hpo hrun k5 BD
      go_upto_region 6 with fail
      go_still_tail 6, (by kernel_rfl)
      change wpList _ _ _ _ _ W4.drew
      go_wp2_with fail
      rw [HRUN.out]
      clear i0 i1 i2 i3 c3
      have i0 := cell_of_row W5 _ 0 _ _ _ HR8b.out
      have i1 := cell_of_row W5 _ 1 _ _ _ HR8b.out
      have i2 := cell_of_row W5 _ 2 _ _ _ HR8b.out
      have i3 := cell_of_row W5 _ 3 _ _ _ HR8b.out
      have f0 := frozen_of_row W5 _ 0 _ _ HR4b.out
      have f1 := frozen_of_row W5 _ 1 _ _ HR4b.out
      have f2 := frozen_of_row W5 _ 2 _ _ HR4b.out
      have f3 := frozen_of_row W5 _ 3 _ _ HR4b.out
      have t0 : W5.cell? ⟨w.heap.size, 0, none⟩ = some (.string ⟨#[]⟩) := cell_of_row W5 _ 0 _ _ _ HR4b.out
      have t1 : W5.cell? ⟨w.heap.size, 1, none⟩ = some (.int .i64 0) := cell_of_row W5 _ 1 _ _ _ HR4b.out
      have t2 : W5.cell? ⟨w.heap.size, 2, none⟩ = some (.string ⟨#[]⟩) := cell_of_row W5 _ 2 _ _ _ HR4b.out
      have t3 : W5.cell? ⟨w.heap.size, 3, none⟩ = some (.string ⟨#[]⟩) := cell_of_row W5 _ 3 _ _ _ HR4b.out
      obtain ⟨W6, hW6⟩ : ∃ W6, (((W5.setCell ⟨w.heap.size, 0, none⟩ (.string nm)).setCell ⟨w.heap.size, 1, none⟩ (.int .i64 sh)).setCell ⟨w.heap.size, 2, none⟩ (.string ps)).setCell ⟨w.heap.size, 3, none⟩ (.string rs) = W6 := ⟨_, rfl⟩
      have hs4 := set4 W5 w.heap.size _ _ _ _ (.string nm) (.int .i64 sh) (.string ps) (.string rs) _ HR4b.out
      rw [hW6] at hs4
      obtain ⟨row6, k6⟩ := hs4
      have HK6 := Lib.hid (kr_box rfl HK5.out k6)
      have HIF6 := Lib.hid (show InfD W6 mb from HIW.out.kept k6 (fun e => by have := HML.out; omega))
      have r0 : W6.cell? ⟨w.heap.size, 0, none⟩ = some (.string nm) := cell_of_row W6 _ 0 _ _ _ row6
      have r1 : W6.cell? ⟨w.heap.size, 1, none⟩ = some (.int .i64 sh) := cell_of_row W6 _ 1 _ _ _ row6
      have r2 : W6.cell? ⟨w.heap.size, 2, none⟩ = some (.string ps) := cell_of_row W6 _ 2 _ _ _ row6
      have r3 : W6.cell? ⟨w.heap.size, 3, none⟩ = some (.string rs) := cell_of_row W6 _ 3 _ _ _ row6
      have HW6 := Lib.hid hW6
      clear hW6 row6 k6
      go_wp2_with fail
      rw [HW6.out]
      (try simp only [Exit.inBlock, Exit.then])
      refine bodyPost_ret (v := .tuple #[.agg #[.string nm, .int .i64 sh, .string ps, .string rs], .bool true]) (by simp [results, Tryz.results156, go_sem, r0, r1, r2, r3]) rfl ?_
      exact ⟨rfl, HIF6.out, HK6.out⟩
end Go.Proofs.YteidhccnbfikcaaGreatDoor.Dec

/- DecC: The reader and what it keeps of codes, together. No condition beyond what each theorem names. -/
namespace Go.Proofs.YteidhccnbfikcaaGreatDoor.Dec
open Go.RowKit Go.Maps Go.Proofs.YteidhccnbfikcaaGreatDoor.Op Go.Proofs.YteidhccnbfikcaaGreatDoor.Mod Go.Proofs.YteidhccnbfikcaaGreatDoor.Leb Go.Proofs.YteidhccnbfikcaaGreatDoor.Enc
set_option linter.unusedVariables false
set_option linter.unusedSimpArgs false
abbrev F2 (rb mb : Nat) : Nat → Prop := fun j => j = rb ∨ j = mb
structure Rd (w0 w : World) (rb mb : Nat) (s : ByteArray) (r : RS) : Prop where
  rd : RdAt w rb s (some mb) r
  inf : InfD w mb
  env : OpEnv w0
  bel : Below w0.heap.size w0 w
  lo : w0.heap.size ≤ rb ∧ w0.heap.size ≤ mb
  pos : r.pos ≤ s.size
  room : s.size ≤ 1000000000000000
variable {w0 w w' W W' : World} {rb mb : Nat} {s : ByteArray} {r r' : RS}
theorem Rd.ne (h : Rd w0 w rb mb s r) : rb ≠ mb := rd_ne h.rd h.inf
theorem Rd.kept {F : Nat → Prop} (h : Rd w0 w rb mb s r) (k : Keeps F w w') (h1 : ¬ F rb) (h2 : ¬ F mb) (h3 : ∀ j, F j → w0.heap.size ≤ j) : Rd w0 w' rb mb s r :=
  ⟨h.rd.kept k h1, h.inf.kept k h2, h.env, h.bel.trans (k.below h3 h.bel.size), h.lo, h.pos, h.room⟩
theorem Rd.later (h : Rd w0 w rb mb s r) (c : Below w.heap.size w w') : Rd w0 w' rb mb s r := h.kept (F := fun _ => False) (.of_below c) id id (fun _ hj => hj.elim)
theorem Rd.step (h : Rd w0 w rb mb s r) (h2 : RdAt w' rb s (some mb) r') (k : Kr rb w w') (hp : r'.pos ≤ s.size) : Rd w0 w' rb mb s r' ∧ Keeps (F2 rb mb) w w' :=
  ⟨⟨h2, h.inf.kept k (fun e => h.ne e.symm), h.env, h.bel.trans (k.below (fun j hj => hj ▸ h.lo.1) h.bel.size), h.lo, hp, h.room⟩, k.mono' (fun j hj => .inl hj)⟩
theorem f2_trans {a b c : World} (h : Keeps (F2 rb mb) a b) (k : Keeps (F2 rb mb) b c) : Keeps (F2 rb mb) a c := h.trans k fun j hj => .inl hj
theorem fail_pos (g : Bool) (c : Int) (r : RS) : (failP g c r).pos = r.pos := by unfold failP; split <;> rfl
theorem rd_fail (h : Rd w0 w rb mb s r) (g : Bool) (c : Int) :
    Calls Tryz.prog 75 #[.pointer (some ⟨rb, 0, none⟩), .bool g, .int .i64 c] w fun e w' => e = .returned (.tuple #[]) ∧ Rd w0 w' rb mb s (failP g c r) ∧ Keeps (F2 rb mb) w w' :=
  (fail_any g c w h.rd).mono fun e w' ⟨h1, h2, k⟩ => ⟨h1, h.step h2 k (by rw [fail_pos]; exact h.pos)⟩
theorem rd_one (h : Rd w0 w rb mb s r) {B : Nat} {q : RS} (hb : oneP s.data.toList r = (B, q)) :
    Calls Tryz.prog 74 #[.pointer (some ⟨rb, 0, none⟩)] w fun e w' => e = .returned (.int .u8 (B : Int)) ∧ Rd w0 w' rb mb s q ∧ Keeps (F2 rb mb) w w' := by
  have h1 := one_any w h.rd h.room h.pos
  have h2 := (one_bounds s r h.pos).2
  rw [hb] at h1 h2
  exact h1.mono fun e w' ⟨h1, h3, k⟩ => ⟨h1, h.step h3 k h2⟩
theorem rd_number (h : Rd w0 w rb mb s r) {n : Int} {q : RS} (hb : numberP s.data.toList r = (n, q)) :
    Calls Tryz.prog 148 #[.pointer (some ⟨rb, 0, none⟩)] w fun e w' => e = .returned (.int .i64 n) ∧ Rd w0 w' rb mb s q ∧ Keeps (F2 rb mb) w w' := by
  have h1 := number_any w h.rd h.room h.pos
  have h2 := (number_bounds hb h.pos).2.2
  rw [hb] at h1
  exact h1.mono fun e w' ⟨h1, h3, k⟩ => ⟨h1, h.step h3 k h2⟩
theorem rd_s32 (h : Rd w0 w rb mb s r) {n : Int} {q : RS} (hb : s32P s.data.toList r = (n, q)) :
    Calls Tryz.prog 160 #[.pointer (some ⟨rb, 0, none⟩), .func (.func 161) #[] #[]] w fun e w' => e = .returned (.int .i32 n) ∧ Rd w0 w' rb mb s q ∧ Keeps (F2 rb mb) w w' := by
  have h1 := read_i32 w h.rd h.room
  have h2 := (readS_bounds (bits := 32) (l := s.data.toList) (r := r) h.pos).2.2
  unfold s32P at hb
  rw [hb] at h1 h2
  exact h1.mono fun e w' ⟨h1, h3, k⟩ => ⟨h1, h.step h3 k h2⟩
theorem rd_s64 (h : Rd w0 w rb mb s r) {n : Int} {q : RS} (hb : s64P s.data.toList r = (n, q)) :
    Calls Tryz.prog 158 #[.pointer (some ⟨rb, 0, none⟩), .func (.func 159) #[] #[]] w fun e w' => e = .returned (.int .i64 n) ∧ Rd w0 w' rb mb s q ∧ Keeps (F2 rb mb) w w' := by
  have h1 := read_i64 w h.rd h.room
  have h2 := (readS_bounds (bits := 64) (l := s.data.toList) (r := r) h.pos).2.2
  unfold s64P at hb
  rw [hb] at h1 h2
  exact h1.mono fun e w' ⟨h1, h3, k⟩ => ⟨h1, h.step h3 k h2⟩
theorem rd_info (h : Rd w0 w rb mb s r) {B : Nat} (hB : B < 256) (nm : ByteArray) (sh : Int) (ps rs : ByteArray) (b : Bool) (hi : (opInfo (B : Int)).getD zeroI = ⟨nm, sh, ps, rs⟩) (hs : (opInfo (B : Int)).isSome = b) :
    Calls Tryz.prog 156 #[.pointer (some ⟨rb, 0, none⟩), .int .i64 (B : Int)] w fun e w' => e = .returned (.tuple #[.agg #[.string nm, .int .i64 sh, .string ps, .string rs], .bool b]) ∧ Rd w0 w' rb mb s r ∧ Keeps (F2 rb mb) w w' := by
  have h1 := info_any B hB w0 w h.env h.bel h.lo.2 h.rd h.inf
  rw [hi, hs] at h1
  exact h1.mono fun e w' ⟨h1, h3, k⟩ => ⟨h1, ⟨h.rd.kept k h.ne, h3, h.env, h.bel.trans (k.below (fun j hj => hj ▸ h.lo.2) h.bel.size), h.lo, h.pos, h.room⟩, k.mono' (fun j hj => .inr hj)⟩
theorem eg_number : ∀ args w, (callFunc 148 args).run Tryz.prog w = .ok (.enter 148 args) w := enters_of Tryz.func148 (by kernel_rfl) rfl
def cellsI (l : List Int) : List (List Value) := l.map fun z => [.int .i64 z]
theorem loop_pos {α : Type} {f : List UInt8 → RS → α × RS} {s : List UInt8} (hf : ∀ r : RS, r.pos ≤ s.length → (f s r).2.pos ≤ s.length) : ∀ (n : Nat) (out : List α) (r : RS), r.pos ≤ s.length → (loopP f s n out r).2.pos ≤ s.length
  | 0, _, _, h => h
  | n + 1, out, r, h => by
    rw [loopP]
    split
    · exact loop_pos hf n _ _ (hf r h)
    · exact h
theorem number_pos {l : List UInt8} (r : RS) (h : r.pos ≤ l.length) : (numberP l r).2.pos ≤ l.length := (readU_bounds (bits := 32) h).2.2
theorem list_pos {α : Type} {f : List UInt8 → RS → α × RS} {s : List UInt8} (hf : ∀ r : RS, r.pos ≤ s.length → (f s r).2.pos ≤ s.length) (r : RS) (h : r.pos ≤ s.length) : (listP f s r).2.pos ≤ s.length := by
  unfold listP
  exact loop_pos hf _ _ _ (by rw [fail_pos]; exact number_pos r h)
theorem rd_ints (h : Rd w0 w rb mb s r) {l : List Int} {q : RS} (hb : listP numberP s.data.toList r = (l, q)) :
    Calls Tryz.prog 157 #[.pointer (some ⟨rb, 0, none⟩), .func (.func 148) #[] #[]] w fun e w' => ∃ v, e = .returned v ∧ OwnAt w' w.heap.size 3 1 v (cellsI l) ∧ l.length ≤ 4096 ∧ Rd w0 w' rb mb s q ∧ Keeps (F2 rb mb) w w' := by
  have hm := h.inf.lt
  have hp := list_pos (f := numberP) (s := s.data.toList) number_pos r h.pos
  have h1 := declist_int (r := r) (rb := rb) (s := s) (mb := some mb) 148 #[] eg_number numberP (fun rows out r2 W => rows = cellsI out ∧ InfD W mb) (F2 rb mb) w h.rd h.room h.pos
    (fun k hk => hk.elim (fun e => e ▸ h.rd.lt) (fun e => e ▸ hm)) (.inl rfl) (fun W r2 h2 k => ⟨rfl, h.inf.kept k (fun e => h.ne e.symm)⟩)
    (fun rows out r2 W W' v rows' ⟨h1, h2⟩ hW hO k => ⟨h1, h2.kept k (fun e => by have := (hO.1.lt mb e).1; omega)⟩)
    (fun W r2 rows out h2 he hp ⟨h1, hI⟩ hW hl => by
      obtain ⟨n, q, hn⟩ : ∃ n q, numberP s.data.toList r2 = (n, q) := ⟨_, _, rfl⟩
      have hc := number_any W h2 h.room hp
      rw [hn] at hc
      rw [hn]
      refine hc.mono fun e w' ⟨h1', h3, k⟩ => ⟨n, h1', h3, ⟨?_, hI.kept k (fun e => rd_ne h2 hI e.symm)⟩, k.mono' (fun j hj => .inl hj)⟩
      rw [h1]
      unfold cellsI
      rw [List.map_append]
      rfl)
    (fun r2 hp => number_pos r2 hp)
  rw [hb] at h1 hp
  refine h1.mono fun e w' ⟨v, he, rows, hO, hR, hK, ⟨hl1, hl2⟩, hc⟩ => ⟨v, he, ?_⟩
  have hrows : rows = cellsI l ∧ InfD w' mb := by
    rcases hc with ⟨e1, e2, _, rows2, out2, _, hI⟩ | hI
    · dsimp only at e2
      exact ⟨by rw [e1, e2]; rfl, hI⟩
    · exact hI
  obtain ⟨rfl, hI⟩ := hrows
  exact ⟨hO, by dsimp only at hl2; omega, ⟨hR, hI, h.env, h.bel.trans (hK.below (fun j hj => hj.elim (fun e => e ▸ h.lo.1) (fun e => e ▸ h.lo.2)) h.bel.size), h.lo, hp, h.room⟩, hK⟩
/-- what lies while an instruction is read: the reader, the instruction's box -/
structure XI (w0 w : World) (rb mb : Nat) (s : ByteArray) (box : Array Value) (r : RS) (W : World) : Prop where
  rd : Rd w0 W rb mb s r
  row : W.heap[w.heap.size]? = some (.cells box 33 (0, 0))
  keep : Keeps (F2 rb mb) w W
  lt : rb < w.heap.size ∧ mb < w.heap.size
variable {box : Array Value}
theorem XI.size (h : XI w0 w rb mb s box r W) : w.heap.size < W.heap.size := (Array.getElem?_eq_some_iff.1 h.row).1
theorem XI.step (h : XI w0 w rb mb s box r W) (h2 : Rd w0 W' rb mb s r') (k : Keeps (F2 rb mb) W W') : XI w0 w rb mb s box r' W' :=
  ⟨h2, (k.block w.heap.size h.size (fun e => by have := h.lt; omega)).trans h.row, f2_trans h.keep k, h.lt⟩
theorem XI.later (h : XI w0 w rb mb s box r W) (c : Below W.heap.size W W') : XI w0 w rb mb s box r W' := h.step (h.rd.later c) (.of_below c)
theorem XI.set (h : XI w0 w rb mb s box r W) (j : Nat) (u : Value) : XI w0 w rb mb s (box.setIfInBounds j u) r (W.setCell ⟨w.heap.size, j, none⟩ u) := by
  have k : Keeps (fun i => i = w.heap.size) W (W.setCell ⟨w.heap.size, j, none⟩ u) := Keeps.setCell _ _ _ rfl
  have hl := h.lt
  have hb := h.rd.bel.size
  refine ⟨h.rd.kept k (by omega) (by omega) (fun i hi => ?_), box_set h.row j u, h.keep.trans k (fun i hi => .inr (by omega)), h.lt⟩
  have h1 := h.rd.lo
  omega
theorem XI.cell (h : XI w0 w rb mb s box r W) (j : Nat) (v : Value) (hv : box[j]? = some v) : W.cell? ⟨w.heap.size, j, none⟩ = some v := by rw [cell_of_row W w.heap.size j _ _ _ h.row]; exact hv
theorem XI.fz (h : XI w0 w rb mb s box r W) (j : Nat) : W.frozen? ⟨w.heap.size, j, none⟩ = false := frozen_of_row W w.heap.size j _ _ h.row
theorem XI.new (h : Rd w0 w rb mb s r) (box : Array Value) : XI w0 w rb mb s box r (w.alloc (.cells box 33)) :=
  ⟨h.later ((Below.refl _ _).alloc (Nat.le_refl _) _), heap_alloc_new _ _, .of_below ((Below.refl _ _).alloc (Nat.le_refl _) _), h.rd.lt, h.inf.lt⟩
/-- what instr answers: the instruction, its labels in memory of its own -/
def GotI (w0 w : World) (rb mb : Nat) (s : ByteArray) (X : InsL) (Q : RS) (e : Ending) (w' : World) : Prop := ∃ lv, e = .returned (.agg #[.int .i64 X.op, .int .i64 X.a, .int .i64 X.b, lv]) ∧ OwnAt w' w.heap.size 3 1 lv (cellsI X.labels) ∧ X.labels.length ≤ 4096 ∧ Rd w0 w' rb mb s Q ∧ Keeps (F2 rb mb) w w'
theorem set_same {w : World} {b : Nat} {cs : Array Value} {t : TypeId} (h : w.heap[b]? = some (.cells cs t (0, 0))) (j : Nat) (u : Value) : (w.setCell ⟨b, j, none⟩ u).heap[b]? = some (.cells (cs.setIfInBounds j u) t (0, 0)) := box_set h j u
theorem wbyte {B : Nat} (h : B < 256) : wrap64 (B : Int) = (B : Int) := by unfold wrap64; omega
end Go.Proofs.YteidhccnbfikcaaGreatDoor.Dec
