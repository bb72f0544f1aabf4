/-
  What package asm's Open, Else, Close and Nest do. No condition beyond what each theorem names.
-/
import Derived.Test.YtlbgbpgjccbbjaaDoorAsmC
namespace Go.Proofs.YtlbgbpgjccbbjaaDoor.Asm
open Go.RowKit Go.Maps Go.Proofs.YtlbgbpgjccbbjaaDoor.Op
set_option linter.unusedVariables false
def blockB (c : Int) : Bool := c == 2 || c == 3 || c == 4
def kindB (k : UInt8) : Bool := k == 127 || k == 126 || k == 64
def openOk (nm : List UInt8) (k : UInt8) : Option Int := match codeOf nm with
  | none => none
  | some c => if blockB c && kindB k then some c else none
theorem k64 (k : UInt8) : ((k.toNat : Int) != 64) = !(k == 64) := by
  have h64 : ((k.toNat : Int) == 64) = (k == 64) := by
    rw [Bool.eq_iff_iff, beq_iff_eq, beq_iff_eq, ← UInt8.toNat_inj]
    simp
    omega
  rw [bne, h64]
set_option maxRecDepth 100000 in
set_option maxHeartbeats 1000000 in
theorem open_none (nm lab : ByteArray) (k : UInt8) (w : World) (B bb : Nat) (x : Bx) (n : Nat) (s : St) (h : BAt w B bb x n s) (hE : Env B w) (hn : n < 1000000) (hs : nm.size ≤ maxLen) (hc : codeOf nm.data.toList = none) :
    Calls Tryd.prog 26 #[.pointer (some ⟨bb, 0, none⟩), .string nm, .string lab, .int .u8 (k.toNat : Int)] w fun e w' => e = .returned (.int .i64 1) ∧ Upd w B bb x (n + 1) s w' := by
  have HA := Lib.hid h
  have HE := Lib.hid hE
  have HC := Lib.hid hc
  clear h hE hc
  go_enter Tryd.func26, Tryd.ntmps26
  go_wp2_with fail
  refine (find_any nm w B bb x n s HA.out HE.out.size HE.out.op hn hs 0 false (by rw [HC.out]; rfl) (by rw [HC.out]; rfl)).mono ?_
  rintro e w1 ⟨rfl, hu⟩
  have HU := Lib.hid hu
  clear hu
  go_wp2_with fail
  go_ret
  exact ⟨rfl, HU.out⟩
set_option maxRecDepth 100000 in
set_option maxHeartbeats 1000000 in
theorem open_other (nm lab : ByteArray) (k : UInt8) (w : World) (B bb : Nat) (x : Bx) (n : Nat) (s : St) (h : BAt w B bb x n s) (hE : Env B w) (hn : n < 1000000) (hs : nm.size ≤ maxLen) (c : Int) (hc : codeOf nm.data.toList = some c) (hb : blockB c = false) :
    Calls Tryd.prog 26 #[.pointer (some ⟨bb, 0, none⟩), .string nm, .string lab, .int .u8 (k.toNat : Int)] w fun e w' => e = .returned (.int .i64 1) ∧ Upd w B bb x (n + 1) s w' := by
  have HA := Lib.hid h
  have HE := Lib.hid hE
  have HC := Lib.hid hc
  simp only [blockB, Bool.or_eq_false_iff] at hb
  obtain ⟨⟨q2, q3⟩, q4⟩ := hb
  have n2 : (c != 2) = true := by rw [bne, q2]; rfl
  have n3 : (c != 3) = true := by rw [bne, q3]; rfl
  have n4 : (c != 4) = true := by rw [bne, q4]; rfl
  clear h hE hc
  go_enter Tryd.func26, Tryd.ntmps26
  go_wp2_with fail
  refine (find_any nm w B bb x n s HA.out HE.out.size HE.out.op hn hs c true (by rw [HC.out]; rfl) (by rw [HC.out]; rfl)).mono ?_
  rintro e w1 ⟨rfl, hu⟩
  have HU := Lib.hid hu
  clear hu
  go_wp2_with fail
  go_ret
  exact ⟨rfl, HU.out⟩
set_option maxRecDepth 100000 in
set_option maxHeartbeats 1000000 in
theorem open_kind (nm lab : ByteArray) (k : UInt8) (w : World) (B bb : Nat) (x : Bx) (n : Nat) (s : St) (h : BAt w B bb x n s) (hE : Env B w) (hn : n < 1000000) (hs : nm.size ≤ maxLen) (c : Int) (hc : codeOf nm.data.toList = some c) (hb : blockB c = true) (hk : kindB k = false) :
    Calls Tryd.prog 26 #[.pointer (some ⟨bb, 0, none⟩), .string nm, .string lab, .int .u8 (k.toNat : Int)] w fun e w' => e = .returned (.int .i64 1) ∧ Upd w B bb x (n + 1) s w' := by
  have HA := Lib.hid h
  have HE := Lib.hid hE
  have HC := Lib.hid hc
  simp only [kindB, Bool.or_eq_false_iff] at hk
  have hv : (k == 127 || k == 126) = false := by simp [hk.1.1, hk.1.2]
  have HV := Lib.hid hv
  have h64 : ((k.toNat : Int) != 64) = true := by rw [k64, hk.2]; rfl
  have hq : c = 2 ∨ c = 3 ∨ c = 4 := by simp [blockB] at hb; omega
  clear h hE hc hk hv hb
  rcases hq with hq | hq | hq
  all_goals
    go_enter Tryd.func26, Tryd.ntmps26
    go_wp2_with fail
    refine (find_any nm w B bb x n s HA.out HE.out.size HE.out.op hn hs c true (by rw [HC.out]; rfl) (by rw [HC.out]; rfl)).mono ?_
    rintro e w1 ⟨rfl, hu⟩
    have HU := Lib.hid hu
    clear hu
    go_wp2_with fail
    refine (value_any k _).mono ?_
    rintro e w2 ⟨rfl, rfl⟩
    rw [HV.out]
    go_wp2_with fail
    go_ret
    exact ⟨rfl, HU.out⟩
set_option maxRecDepth 100000 in
set_option maxHeartbeats 1000000 in
theorem open_full (nm lab : ByteArray) (k : UInt8) (w : World) (B bb : Nat) (x : Bx) (n : Nat) (s : St) (h : BAt w B bb x n s) (hE : Env B w) (hn : n < 1000000) (hs : nm.size ≤ maxLen) (c : Int) (hc : codeOf nm.data.toList = some c) (hb : blockB c = true) (hk : kindB k = true) (hl : s.opens.length = 256) :
    Calls Tryd.prog 26 #[.pointer (some ⟨bb, 0, none⟩), .string nm, .string lab, .int .u8 (k.toNat : Int)] w fun e w' => e = .returned (.int .i64 5) ∧ Upd w B bb x (n + 1) s w' := by
  have HA := Lib.hid h
  have HE := Lib.hid hE
  have HC := Lib.hid hc
  obtain ⟨b, hv⟩ : ∃ b, (k == 127 || k == 126) = b := ⟨_, rfl⟩
  have h64 : b = false → ((k.toNat : Int) != 64) = false := fun hb0 => by
    subst hb0
    rw [k64]
    unfold kindB at hk
    rw [hv] at hk
    simpa using hk
  have HV := Lib.hid hv
  have H64 := Lib.hid h64
  have HL := Lib.hid hl
  have hq : c = 2 ∨ c = 3 ∨ c = 4 := by simp [blockB] at hb; omega
  clear h hE hc hk hv hb h64 hl
  rcases hq with hq | hq | hq
  all_goals
    go_enter Tryd.func26, Tryd.ntmps26
    go_wp2_with fail
    refine (find_any nm w B bb x n s HA.out HE.out.size HE.out.op hn hs c true (by rw [HC.out]; rfl) (by rw [HC.out]; rfl)).mono ?_
    rintro e w1 ⟨rfl, hu⟩
    have HU := Lib.hid hu
    obtain ⟨⟨lv, cv, ov, mb⟩, hA1, hf, hk⟩ := hu
    obtain ⟨g, cap, hov⟩ := Go.Joins.ownsRow_form hA1.ope (by rw [HL.out]; decide)
    have hov2 : ov = .slice (some ⟨g, 0, none⟩) 256 cap := by rw [← HL.out]; exact hov
    subst hov2
    obtain ⟨_, _, _, c3, _⟩ := hA1.cells
    clear hA1 hf hk hov
    go_wp2_with fail
    refine (value_any k _).mono ?_
    rintro e w2 ⟨rfl, rfl⟩
    rw [HV.out]
    cases b
    · have h64 := H64.out rfl
      go_wp2_with fail
      go_ret
      exact ⟨rfl, HU.out⟩
    · go_wp2_with fail
      go_ret
      exact ⟨rfl, HU.out⟩
set_option maxRecDepth 100000 in
set_option maxHeartbeats 4000000 in
theorem open_ok (nm lab : ByteArray) (k : UInt8) (w : World) (B bb : Nat) (x : Bx) (n : Nat) (s : St) (h : BAt w B bb x n s) (hE : Env B w) (hn : n < 1000000) (hlc : s.code.length < 1000000) (hs : nm.size ≤ maxLen) (c : Int) (hc : codeOf nm.data.toList = some c) (hb : blockB c = true) (hk : kindB k = true) (hl : s.opens.length < 256) :
    Calls Tryd.prog 26 #[.pointer (some ⟨bb, 0, none⟩), .string nm, .string lab, .int .u8 (k.toNat : Int)] w fun e w' => e = .returned (.int .i64 0) ∧ Upd w B bb x (n + 1) { s with code := s.code ++ [⟨c, k.toNat, 0⟩], opens := s.opens ++ [⟨c, lab⟩] } w' := by
  obtain ⟨i0, hi, hz0, hz1, hz2⟩ := info_of info_mk
  have HA := Lib.hid h
  have HE := Lib.hid hE
  have HC := Lib.hid hc
  obtain ⟨b, hv⟩ : ∃ b, (k == 127 || k == 126) = b := ⟨_, rfl⟩
  have h64 : b = false → ((k.toNat : Int) != 64) = false := fun hb0 => by
    subst hb0
    rw [k64]
    unfold kindB at hk
    rw [hv] at hk
    simpa using hk
  have HV := Lib.hid hv
  have H64 := Lib.hid h64
  have hd : ((s.opens.length : Int) == 256) = false := beq_eq_false_iff_ne.2 (by omega)
  have hq : c = 2 ∨ c = 3 ∨ c = 4 := by simp [blockB] at hb; omega
  clear h hE hc hk hv hb h64
  have hko : IntKind.i64.wrap (k.toNat : Int) = k.toNat := by have := k.toNat_lt; exact IntWalk.i64_in _ (by omega)
  rcases hq with hq | hq | hq
  · have n2 : (c != 2) = false := by rw [hq]; rfl
    clear hq
    go_enter Tryd.func26, Tryd.ntmps26
    go_wp2_with fail
    refine (find_any nm w B bb x n s HA.out HE.out.size HE.out.op hn hs c true (by rw [HC.out]; rfl) (by rw [HC.out]; rfl)).mono ?_
    rintro e w1 ⟨rfl, hu⟩
    have HE1 := Lib.hid (HE.out.upd HA.out hu)
    obtain ⟨⟨lv, cv, ov, mb⟩, hA1, hf, hk⟩ := hu
    have HF := Lib.hid hf
    have HK := Lib.hid hk
    obtain ⟨a, cap, hov⟩ : ∃ a cap, ov = .slice a s.opens.length cap := by
      rcases hA1.ope.2 with ⟨h1, h2⟩ | ⟨g, cap, cur, h1, _⟩
      · exact ⟨none, 0, by rw [h2]; exact h1⟩
      · exact ⟨_, cap, h1⟩
    subst hov
    have HA1 := Lib.hid hA1
    obtain ⟨_, _, _, c3, _⟩ := hA1.cells
    have fz := hA1.frozen
    clear hA1 hf hk
    go_wp2_with fail
    refine (value_any k _).mono ?_
    rintro e w2 ⟨rfl, rfl⟩
    rw [HV.out]
    cases b
    · have h64 := H64.out rfl
      go_wp2_with (at_builtin; refine wpList_append_own2 _ rfl _ _ 86 rfl B 91 i0 zeroMk 2 24 Tryd.underlying86 hi hz0 hz1 hz2 rfl (by decide) _ _ _ rfl (HA1.out.ope.alloc _) ⟨w1.heap.size, 0, none⟩ 1 1 (Mk.cells ⟨c, lab⟩) rfl rfl ?c1 (one_mk _) (by decide) ?c4 ?c5 ?c6 ?_)
      case c1 => exact news_at w1 #[.int .i64 c, .string lab] 91 _ rfl
      case c4 => unfold maxLen; omega
      case c5 => omega
      case c6 => have := HE1.out.size; simp; omega
      intro v' w3 hown hgrow hnb
      obtain ⟨g', cap', rfl⟩ := Go.Joins.ownsRow_form hown (by omega)
      have hg := grown_alloc hgrow
      have hu := HA1.out.setOpe (l := s.opens ++ [⟨c, lab⟩]) hg (by rw [openV_snoc, List.length_append]; exact hown) (newBlock_mono hnb (by simp))
      have hne : (Value.slice a s.opens.length cap).ownBlock ≠ some bb := fun e => (HA1.out.rest.2.2.1 bb e).1 rfl
      have hbx : w3.heap[bb]? = w1.heap[bb]? := hg.block bb HA1.out.lt (Ne.symm hne)
      have fz1 : w3.frozen? ⟨bb, 3, none⟩ = false := (World.frozen?_of_block (a := ⟨bb, 3, none⟩) hbx).trans (HA1.out.frozen 3)
      have cz : w3.cell? ⟨bb, 3, none⟩ = some (.slice a s.opens.length cap) := (World.cell?_of_block (a := ⟨bb, 3, none⟩) hbx).trans c3
      have HU := Lib.hid hu
      have HE4 := Lib.hid (HE1.out.upd HA1.out hu)
      clear hown hgrow hnb hg hu hbx hne
      go_wp2_with fail
      obtain ⟨W4, hW4⟩ : ∃ W4, w3.setCell ⟨bb, 3, none⟩ (.slice (some ⟨g', 0, none⟩) (s.opens.length + 1) cap') = W4 := ⟨_, rfl⟩
      rw [hW4] at HU HE4 ⊢
      clear hW4 cz fz1 fz c3
      obtain ⟨x4, hB4, hf4, hk4⟩ := HU.out
      refine (put_any c k.toNat 0 W4 B bb x4 (n + 1) _ hB4 HE4.out.size hlc).mono ?_
      rintro e w5 ⟨rfl, hu5⟩
      have HU5 := Lib.hid (Upd.trans HF.out HK.out (Upd.trans hf4 hk4 hu5))
      clear hu5 hB4 hf4 hk4 HU
      go_wp2_with fail
      go_ret
      exact ⟨rfl, HU5.out⟩
    · go_wp2_with (at_builtin; refine wpList_append_own2 _ rfl _ _ 86 rfl B 91 i0 zeroMk 2 24 Tryd.underlying86 hi hz0 hz1 hz2 rfl (by decide) _ _ _ rfl (HA1.out.ope.alloc _) ⟨w1.heap.size, 0, none⟩ 1 1 (Mk.cells ⟨c, lab⟩) rfl rfl ?c1 (one_mk _) (by decide) ?c4 ?c5 ?c6 ?_)
      case c1 => exact news_at w1 #[.int .i64 c, .string lab] 91 _ rfl
      case c4 => unfold maxLen; omega
      case c5 => omega
      case c6 => have := HE1.out.size; simp; omega
      intro v' w3 hown hgrow hnb
      obtain ⟨g', cap', rfl⟩ := Go.Joins.ownsRow_form hown (by omega)
      have hg := grown_alloc hgrow
      have hu := HA1.out.setOpe (l := s.opens ++ [⟨c, lab⟩]) hg (by rw [openV_snoc, List.length_append]; exact hown) (newBlock_mono hnb (by simp))
      have hne : (Value.slice a s.opens.length cap).ownBlock ≠ some bb := fun e => (HA1.out.rest.2.2.1 bb e).1 rfl
      have hbx : w3.heap[bb]? = w1.heap[bb]? := hg.block bb HA1.out.lt (Ne.symm hne)
      have fz1 : w3.frozen? ⟨bb, 3, none⟩ = false := (World.frozen?_of_block (a := ⟨bb, 3, none⟩) hbx).trans (HA1.out.frozen 3)
      have cz : w3.cell? ⟨bb, 3, none⟩ = some (.slice a s.opens.length cap) := (World.cell?_of_block (a := ⟨bb, 3, none⟩) hbx).trans c3
      have HU := Lib.hid hu
      have HE4 := Lib.hid (HE1.out.upd HA1.out hu)
      clear hown hgrow hnb hg hu hbx hne
      go_wp2_with fail
      obtain ⟨W4, hW4⟩ : ∃ W4, w3.setCell ⟨bb, 3, none⟩ (.slice (some ⟨g', 0, none⟩) (s.opens.length + 1) cap') = W4 := ⟨_, rfl⟩
      rw [hW4] at HU HE4 ⊢
      clear hW4 cz fz1 fz c3
      obtain ⟨x4, hB4, hf4, hk4⟩ := HU.out
      refine (put_any c k.toNat 0 W4 B bb x4 (n + 1) _ hB4 HE4.out.size hlc).mono ?_
      rintro e w5 ⟨rfl, hu5⟩
      have HU5 := Lib.hid (Upd.trans HF.out HK.out (Upd.trans hf4 hk4 hu5))
      clear hu5 hB4 hf4 hk4 HU
      go_wp2_with fail
      go_ret
      exact ⟨rfl, HU5.out⟩
  · have n2 : (c != 2) = true := by rw [hq]; rfl
    have n3 : (c != 3) = false := by rw [hq]; rfl
    clear hq
    go_enter Tryd.func26, Tryd.ntmps26
    go_wp2_with fail
    refine (find_any nm w B bb x n s HA.out HE.out.size HE.out.op hn hs c true (by rw [HC.out]; rfl) (by rw [HC.out]; rfl)).mono ?_
    rintro e w1 ⟨rfl, hu⟩
    have HE1 := Lib.hid (HE.out.upd HA.out hu)
    obtain ⟨⟨lv, cv, ov, mb⟩, hA1, hf, hk⟩ := hu
    have HF := Lib.hid hf
    have HK := Lib.hid hk
    obtain ⟨a, cap, hov⟩ : ∃ a cap, ov = .slice a s.opens.length cap := by
      rcases hA1.ope.2 with ⟨h1, h2⟩ | ⟨g, cap, cur, h1, _⟩
      · exact ⟨none, 0, by rw [h2]; exact h1⟩
      · exact ⟨_, cap, h1⟩
    subst hov
    have HA1 := Lib.hid hA1
    obtain ⟨_, _, _, c3, _⟩ := hA1.cells
    have fz := hA1.frozen
    clear hA1 hf hk
    go_wp2_with fail
    refine (value_any k _).mono ?_
    rintro e w2 ⟨rfl, rfl⟩
    rw [HV.out]
    cases b
    · have h64 := H64.out rfl
      go_wp2_with (at_builtin; refine wpList_append_own2 _ rfl _ _ 86 rfl B 91 i0 zeroMk 2 24 Tryd.underlying86 hi hz0 hz1 hz2 rfl (by decide) _ _ _ rfl (HA1.out.ope.alloc _) ⟨w1.heap.size, 0, none⟩ 1 1 (Mk.cells ⟨c, lab⟩) rfl rfl ?c1 (one_mk _) (by decide) ?c4 ?c5 ?c6 ?_)
      case c1 => exact news_at w1 #[.int .i64 c, .string lab] 91 _ rfl
      case c4 => unfold maxLen; omega
      case c5 => omega
      case c6 => have := HE1.out.size; simp; omega
      intro v' w3 hown hgrow hnb
      obtain ⟨g', cap', rfl⟩ := Go.Joins.ownsRow_form hown (by omega)
      have hg := grown_alloc hgrow
      have hu := HA1.out.setOpe (l := s.opens ++ [⟨c, lab⟩]) hg (by rw [openV_snoc, List.length_append]; exact hown) (newBlock_mono hnb (by simp))
      have hne : (Value.slice a s.opens.length cap).ownBlock ≠ some bb := fun e => (HA1.out.rest.2.2.1 bb e).1 rfl
      have hbx : w3.heap[bb]? = w1.heap[bb]? := hg.block bb HA1.out.lt (Ne.symm hne)
      have fz1 : w3.frozen? ⟨bb, 3, none⟩ = false := (World.frozen?_of_block (a := ⟨bb, 3, none⟩) hbx).trans (HA1.out.frozen 3)
      have cz : w3.cell? ⟨bb, 3, none⟩ = some (.slice a s.opens.length cap) := (World.cell?_of_block (a := ⟨bb, 3, none⟩) hbx).trans c3
      have HU := Lib.hid hu
      have HE4 := Lib.hid (HE1.out.upd HA1.out hu)
      clear hown hgrow hnb hg hu hbx hne
      go_wp2_with fail
      obtain ⟨W4, hW4⟩ : ∃ W4, w3.setCell ⟨bb, 3, none⟩ (.slice (some ⟨g', 0, none⟩) (s.opens.length + 1) cap') = W4 := ⟨_, rfl⟩
      rw [hW4] at HU HE4 ⊢
      clear hW4 cz fz1 fz c3
      obtain ⟨x4, hB4, hf4, hk4⟩ := HU.out
      refine (put_any c k.toNat 0 W4 B bb x4 (n + 1) _ hB4 HE4.out.size hlc).mono ?_
      rintro e w5 ⟨rfl, hu5⟩
      have HU5 := Lib.hid (Upd.trans HF.out HK.out (Upd.trans hf4 hk4 hu5))
      clear hu5 hB4 hf4 hk4 HU
      go_wp2_with fail
      go_ret
      exact ⟨rfl, HU5.out⟩
    · go_wp2_with (at_builtin; refine wpList_append_own2 _ rfl _ _ 86 rfl B 91 i0 zeroMk 2 24 Tryd.underlying86 hi hz0 hz1 hz2 rfl (by decide) _ _ _ rfl (HA1.out.ope.alloc _) ⟨w1.heap.size, 0, none⟩ 1 1 (Mk.cells ⟨c, lab⟩) rfl rfl ?c1 (one_mk _) (by decide) ?c4 ?c5 ?c6 ?_)
      case c1 => exact news_at w1 #[.int .i64 c, .string lab] 91 _ rfl
      case c4 => unfold maxLen; omega
      case c5 => omega
      case c6 => have := HE1.out.size; simp; omega
      intro v' w3 hown hgrow hnb
      obtain ⟨g', cap', rfl⟩ := Go.Joins.ownsRow_form hown (by omega)
      have hg := grown_alloc hgrow
      have hu := HA1.out.setOpe (l := s.opens ++ [⟨c, lab⟩]) hg (by rw [openV_snoc, List.length_append]; exact hown) (newBlock_mono hnb (by simp))
      have hne : (Value.slice a s.opens.length cap).ownBlock ≠ some bb := fun e => (HA1.out.rest.2.2.1 bb e).1 rfl
      have hbx : w3.heap[bb]? = w1.heap[bb]? := hg.block bb HA1.out.lt (Ne.symm hne)
      have fz1 : w3.frozen? ⟨bb, 3, none⟩ = false := (World.frozen?_of_block (a := ⟨bb, 3, none⟩) hbx).trans (HA1.out.frozen 3)
      have cz : w3.cell? ⟨bb, 3, none⟩ = some (.slice a s.opens.length cap) := (World.cell?_of_block (a := ⟨bb, 3, none⟩) hbx).trans c3
      have HU := Lib.hid hu
      have HE4 := Lib.hid (HE1.out.upd HA1.out hu)
      clear hown hgrow hnb hg hu hbx hne
      go_wp2_with fail
      obtain ⟨W4, hW4⟩ : ∃ W4, w3.setCell ⟨bb, 3, none⟩ (.slice (some ⟨g', 0, none⟩) (s.opens.length + 1) cap') = W4 := ⟨_, rfl⟩
      rw [hW4] at HU HE4 ⊢
      clear hW4 cz fz1 fz c3
      obtain ⟨x4, hB4, hf4, hk4⟩ := HU.out
      refine (put_any c k.toNat 0 W4 B bb x4 (n + 1) _ hB4 HE4.out.size hlc).mono ?_
      rintro e w5 ⟨rfl, hu5⟩
      have HU5 := Lib.hid (Upd.trans HF.out HK.out (Upd.trans hf4 hk4 hu5))
      clear hu5 hB4 hf4 hk4 HU
      go_wp2_with fail
      go_ret
      exact ⟨rfl, HU5.out⟩
  · have n2 : (c != 2) = true := by rw [hq]; rfl
    have n3 : (c != 3) = true := by rw [hq]; rfl
    have n4 : (c != 4) = false := by rw [hq]; rfl
    clear hq
    go_enter Tryd.func26, Tryd.ntmps26
    go_wp2_with fail
    refine (find_any nm w B bb x n s HA.out HE.out.size HE.out.op hn hs c true (by rw [HC.out]; rfl) (by rw [HC.out]; rfl)).mono ?_
    rintro e w1 ⟨rfl, hu⟩
    have HE1 := Lib.hid (HE.out.upd HA.out hu)
    obtain ⟨⟨lv, cv, ov, mb⟩, hA1, hf, hk⟩ := hu
    have HF := Lib.hid hf
    have HK := Lib.hid hk
    obtain ⟨a, cap, hov⟩ : ∃ a cap, ov = .slice a s.opens.length cap := by
      rcases hA1.ope.2 with ⟨h1, h2⟩ | ⟨g, cap, cur, h1, _⟩
      · exact ⟨none, 0, by rw [h2]; exact h1⟩
      · exact ⟨_, cap, h1⟩
    subst hov
    have HA1 := Lib.hid hA1
    obtain ⟨_, _, _, c3, _⟩ := hA1.cells
    have fz := hA1.frozen
    clear hA1 hf hk
    go_wp2_with fail
    refine (value_any k _).mono ?_
    rintro e w2 ⟨rfl, rfl⟩
    rw [HV.out]
    cases b
    · have h64 := H64.out rfl
      go_wp2_with (at_builtin; refine wpList_append_own2 _ rfl _ _ 86 rfl B 91 i0 zeroMk 2 24 Tryd.underlying86 hi hz0 hz1 hz2 rfl (by decide) _ _ _ rfl (HA1.out.ope.alloc _) ⟨w1.heap.size, 0, none⟩ 1 1 (Mk.cells ⟨c, lab⟩) rfl rfl ?c1 (one_mk _) (by decide) ?c4 ?c5 ?c6 ?_)
      case c1 => exact news_at w1 #[.int .i64 c, .string lab] 91 _ rfl
      case c4 => unfold maxLen; omega
      case c5 => omega
      case c6 => have := HE1.out.size; simp; omega
      intro v' w3 hown hgrow hnb
      obtain ⟨g', cap', rfl⟩ := Go.Joins.ownsRow_form hown (by omega)
      have hg := grown_alloc hgrow
      have hu := HA1.out.setOpe (l := s.opens ++ [⟨c, lab⟩]) hg (by rw [openV_snoc, List.length_append]; exact hown) (newBlock_mono hnb (by simp))
      have hne : (Value.slice a s.opens.length cap).ownBlock ≠ some bb := fun e => (HA1.out.rest.2.2.1 bb e).1 rfl
      have hbx : w3.heap[bb]? = w1.heap[bb]? := hg.block bb HA1.out.lt (Ne.symm hne)
      have fz1 : w3.frozen? ⟨bb, 3, none⟩ = false := (World.frozen?_of_block (a := ⟨bb, 3, none⟩) hbx).trans (HA1.out.frozen 3)
      have cz : w3.cell? ⟨bb, 3, none⟩ = some (.slice a s.opens.length cap) := (World.cell?_of_block (a := ⟨bb, 3, none⟩) hbx).trans c3
      have HU := Lib.hid hu
      have HE4 := Lib.hid (HE1.out.upd HA1.out hu)
      clear hown hgrow hnb hg hu hbx hne
      go_wp2_with fail
      obtain ⟨W4, hW4⟩ : ∃ W4, w3.setCell ⟨bb, 3, none⟩ (.slice (some ⟨g', 0, none⟩) (s.opens.length + 1) cap') = W4 := ⟨_, rfl⟩
      rw [hW4] at HU HE4 ⊢
      clear hW4 cz fz1 fz c3
      obtain ⟨x4, hB4, hf4, hk4⟩ := HU.out
      refine (put_any c k.toNat 0 W4 B bb x4 (n + 1) _ hB4 HE4.out.size hlc).mono ?_
      rintro e w5 ⟨rfl, hu5⟩
      have HU5 := Lib.hid (Upd.trans HF.out HK.out (Upd.trans hf4 hk4 hu5))
      clear hu5 hB4 hf4 hk4 HU
      go_wp2_with fail
      go_ret
      exact ⟨rfl, HU5.out⟩
    · go_wp2_with (at_builtin; refine wpList_append_own2 _ rfl _ _ 86 rfl B 91 i0 zeroMk 2 24 Tryd.underlying86 hi hz0 hz1 hz2 rfl (by decide) _ _ _ rfl (HA1.out.ope.alloc _) ⟨w1.heap.size, 0, none⟩ 1 1 (Mk.cells ⟨c, lab⟩) rfl rfl ?c1 (one_mk _) (by decide) ?c4 ?c5 ?c6 ?_)
      case c1 => exact news_at w1 #[.int .i64 c, .string lab] 91 _ rfl
      case c4 => unfold maxLen; omega
      case c5 => omega
      case c6 => have := HE1.out.size; simp; omega
      intro v' w3 hown hgrow hnb
      obtain ⟨g', cap', rfl⟩ := Go.Joins.ownsRow_form hown (by omega)
      have hg := grown_alloc hgrow
      have hu := HA1.out.setOpe (l := s.opens ++ [⟨c, lab⟩]) hg (by rw [openV_snoc, List.length_append]; exact hown) (newBlock_mono hnb (by simp))
      have hne : (Value.slice a s.opens.length cap).ownBlock ≠ some bb := fun e => (HA1.out.rest.2.2.1 bb e).1 rfl
      have hbx : w3.heap[bb]? = w1.heap[bb]? := hg.block bb HA1.out.lt (Ne.symm hne)
      have fz1 : w3.frozen? ⟨bb, 3, none⟩ = false := (World.frozen?_of_block (a := ⟨bb, 3, none⟩) hbx).trans (HA1.out.frozen 3)
      have cz : w3.cell? ⟨bb, 3, none⟩ = some (.slice a s.opens.length cap) := (World.cell?_of_block (a := ⟨bb, 3, none⟩) hbx).trans c3
      have HU := Lib.hid hu
      have HE4 := Lib.hid (HE1.out.upd HA1.out hu)
      clear hown hgrow hnb hg hu hbx hne
      go_wp2_with fail
      obtain ⟨W4, hW4⟩ : ∃ W4, w3.setCell ⟨bb, 3, none⟩ (.slice (some ⟨g', 0, none⟩) (s.opens.length + 1) cap') = W4 := ⟨_, rfl⟩
      rw [hW4] at HU HE4 ⊢
      clear hW4 cz fz1 fz c3
      obtain ⟨x4, hB4, hf4, hk4⟩ := HU.out
      refine (put_any c k.toNat 0 W4 B bb x4 (n + 1) _ hB4 HE4.out.size hlc).mono ?_
      rintro e w5 ⟨rfl, hu5⟩
      have HU5 := Lib.hid (Upd.trans HF.out HK.out (Upd.trans hf4 hk4 hu5))
      clear hu5 hB4 hf4 hk4 HU
      go_wp2_with fail
      go_ret
      exact ⟨rfl, HU5.out⟩
end Go.Proofs.YtlbgbpgjccbbjaaDoor.Asm
