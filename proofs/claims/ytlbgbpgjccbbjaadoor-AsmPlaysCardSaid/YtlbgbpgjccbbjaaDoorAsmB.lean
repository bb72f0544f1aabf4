/-
  What package asm's Local and find do. No condition beyond what each theorem names.
-/
import Derived.Test.YtlbgbpgjccbbjaaDoorAsmA
import Derived.Deep.QuietTactic
import Derived.BigQuiet
namespace Go.Proofs.YtlbgbpgjccbbjaaDoor.Asm
open Go.RowKit Go.Maps Go.Proofs.YtlbgbpgjccbbjaaDoor.Op
set_option linter.unusedVariables false
theorem Upd.drewN {w w' : World} {B bb : Nat} {x : Bx} {n : Nat} {s : St} (h : Upd w B bb x n s w') (q : Nat) : Upd w B bb x n s (w'.drewN q) := by
  obtain ⟨x', h1, h2, h3⟩ := h
  exact ⟨x', h1.kept (fun _ _ => rfl), h2, ⟨h3.os, h3.tape, h3.output, h3.size, h3.block⟩⟩
theorem Upd.drew {w w' : World} {B bb : Nat} {x : Bx} {n : Nat} {s : St} (h : Upd w B bb x n s w') : Upd w B bb x n s w'.drew := by
  obtain ⟨x', h1, h2, h3⟩ := h
  exact ⟨x', h1.kept (fun _ _ => rfl), h2, ⟨h3.os, h3.tape, h3.output, h3.size, h3.block⟩⟩
set_option maxRecDepth 100000 in
set_option maxHeartbeats 1000000 in
theorem local_ok (k : UInt8) (w : World) (B bb : Nat) (x : Bx) (n : Nat) (s : St) (h : BAt w B bb x n s) (hB : B ≤ w.heap.size) (hl : s.locals.length < 4000) (hp : s.params ≤ 64) (hk : (k == 127 || k == 126) = true) : Calls Tryd.prog 24 #[.pointer (some ⟨bb, 0, none⟩), .int .u8 (k.toNat : Int)] w fun e w' => e = .returned (.tuple #[.int .i64 ((s.params + s.locals.length : Nat) : Int), .int .i64 0]) ∧ Upd w B bb x n { s with locals := s.locals ++ [k] } w' := by
  obtain ⟨i0, hi, hz0, hz1, hz2⟩ := info_of info_u8
  obtain ⟨lv, cv, ov, mb⟩ := x
  obtain ⟨_, c1, _, _, _⟩ := h.cells
  obtain ⟨a, cap, hlv⟩ : ∃ a cap, lv = .slice a s.locals.length cap := by
    rcases h.loc.2 with ⟨h1, h2⟩ | ⟨g, cap, cur, h1, _⟩
    · exact ⟨none, 0, by rw [h2]; exact h1⟩
    · exact ⟨_, cap, h1⟩
  subst hlv
  have hd : ((s.locals.length : Int) == 4000) = false := beq_eq_false_iff_ne.2 (by omega)
  have H := Lib.hid hk
  have HA := Lib.hid h
  have fz := h.frozen
  clear hk h
  go_enter Tryd.func24, Tryd.ntmps24
  go_wp2_with fail
  refine (value_any k _).mono ?_
  rintro e w1 ⟨rfl, rfl⟩
  rw [H.out]
  go_wp2_with (at_builtin; refine wpList_append_own2 _ rfl _ _ 46 rfl B 5 i0 (.int .u8 0) 1 1 Tryd.underlying46 hi hz0 hz1 hz2 rfl (by decide) _ _ _ rfl (HA.out.loc.alloc _) ⟨w.heap.size, 0, none⟩ 1 1 [.int .u8 (k.toNat : Int)] rfl rfl ?c1 ?c2 (by decide) ?c4 ?c5 ?c6 ?_)
  case c1 => exact news_at w #[.int .u8 (k.toNat : Int)] 5 _ rfl
  case c2 => intro u hu; simp at hu; subst hu; rfl
  case c4 => unfold maxLen; omega
  case c5 => omega
  case c6 => simp; omega
  intro v' w1 hown hgrow hnb
  obtain ⟨g', cap', rfl⟩ := Go.Joins.ownsRow_form hown (by omega)
  have hg := grown_alloc hgrow
  have hu := HA.out.setLoc (l := s.locals ++ [k]) hg (by rw [locV_snoc, List.length_append]; exact hown) (newBlock_mono hnb (by simp))
  have hne : (Value.slice a s.locals.length cap).ownBlock ≠ some bb := fun e => (HA.out.rest.1 bb e).1 rfl
  have hbx : w1.heap[bb]? = w.heap[bb]? := hg.block bb HA.out.lt (Ne.symm hne)
  have fz1 : w1.frozen? ⟨bb, 1, none⟩ = false := (World.frozen?_of_block (a := ⟨bb, 1, none⟩) hbx).trans (HA.out.frozen 1)
  have cz : w1.cell? ⟨bb, 1, none⟩ = some (.slice a s.locals.length cap) := (World.cell?_of_block (a := ⟨bb, 1, none⟩) hbx).trans c1
  have HU := Lib.hid hu
  clear hown hgrow hnb hg hu hbx hne
  go_wp2_with fail
  obtain ⟨W4, hW4⟩ : ∃ W4, w1.setCell ⟨bb, 1, none⟩ (.slice (some ⟨g', 0, none⟩) (s.locals.length + 1) cap') = W4 := ⟨_, rfl⟩
  rw [hW4] at HU ⊢
  clear hW4 cz fz1 fz c1
  obtain ⟨⟨lv2, cv2, ov2, mb2⟩, hB4, hf, hk⟩ := HU.out
  obtain ⟨g2, cap2, hlv2⟩ := Go.Joins.ownsRow_form hB4.loc (by simp)
  have hlv3 : lv2 = .slice (some ⟨g2, 0, none⟩) (s.locals.length + 1) cap2 := by simpa using hlv2
  subst hlv3
  obtain ⟨d0, d1, _, _, _⟩ := hB4.cells
  have HD := Lib.hid hB4
  clear hB4 hf hk hlv2
  go_quiet (fail)
  go_wp2_with fail
  go_ret2
  refine ⟨?_, HU.out.drewN nq⟩
  show Ending.returned (.tuple #[.int .i64 ((s.params : Int) + ((s.locals.length : Int) + 1) - 1), .int .i64 0]) = _
  rw [show ((s.params : Int) + ((s.locals.length : Int) + 1) - 1) = ((s.params + s.locals.length : Nat) : Int) by omega]
  simp
theorem keyed_str : Keyed Tryd.prog 9 := string_keyed Tryd.underlying9
theorem key_str {nm : ByteArray} (h : nm.size ≤ maxLen) : keyOf Tryd.prog 9 (.string nm) = some (.string nm.data.toList) := Go.WideMaps.keyOf_string_mk Tryd.underlying9 h
theorem zero_int (w : World) : (zeroValue 3).run Tryd.prog w = .ok (.int .i64 0) w := by kernel_rfl
set_option maxRecDepth 100000 in
set_option maxHeartbeats 1000000 in
theorem find_any (nm : ByteArray) (w : World) (B bb : Nat) (x : Bx) (n : Nat) (s : St) (h : BAt w B bb x n s) (hB : B ≤ w.heap.size) (hE : OpEnv w) (hn : n < 1000000) (hs : nm.size ≤ maxLen) (v : Int) (ok : Bool) (hv : (codeOf nm.data.toList).getD 0 = v) (hok : (codeOf nm.data.toList).isSome = ok) :
    Calls Tryd.prog 42 #[.pointer (some ⟨bb, 0, none⟩), .string nm] w fun e w' => e = .returned (.tuple #[.int .i64 v, .bool ok]) ∧ Upd w B bb x (n + 1) s w' := by
  obtain ⟨lv, cv, ov, mb⟩ := x
  obtain ⟨_, _, _, _, c4⟩ := h.cells
  obtain ⟨D, hm, hN⟩ := h.nam
  have HA := Lib.hid h
  have HM := Lib.hid hm
  have HN := Lib.hid hN
  have HE := Lib.hid hE
  have HV := Lib.hid hv
  have HO := Lib.hid hok
  have HS := Lib.hid hs
  obtain ⟨u, ps, hrun, hu⟩ := hm.look_ok keyed_str Tryd.underlying85 (zero_int w) (show asIs (.int .i64 0) = some (.held (.int .i64 0), []) from rfl) (key_str hs)
  have hu1 : DataW.held u = D.atKey (.string nm.data.toList) (.held (.int .i64 0)) := congrArg Prod.fst (Option.some.inj hu)
  clear hu h hm hN hE hv hok hs
  cases hh : has D (.string nm.data.toList) with
  | true =>
    obtain ⟨c, hc, hat⟩ := HN.out nm hh
    rw [hat] at hu1
    obtain rfl := held_inj hu1
    have h1 := HV.out
    have h2 := HO.out
    rw [hc] at h1 h2
    obtain rfl : c = v := h1
    obtain rfl : ok = true := h2.symm
    rw [hh] at hrun
    clear h2 hat hu1 hh hc
    go_enter Tryd.func42, Tryd.ntmps42
    go_wp2_with fail
    go_ret2
    exact ⟨rfl, Upd.same (HA.out.mono (by omega))⟩
  | false =>
    rw [atKey_of_not_has hh] at hu1
    obtain rfl := held_inj hu1
    rw [hh] at hrun
    clear hu1 hh
    go_enter Tryd.func42, Tryd.ntmps42
    go_wp2_with fail
    refine (code_any nm w HE.out v ok HV.out HO.out).mono ?_
    rintro e w1 ⟨rfl, c1⟩
    have HA1 := Lib.hid (HA.out.later c1)
    have HM1 := Lib.hid (ownsMap_later HM.out c1)
    have HC1 := Lib.hid c1
    have d4 : w1.cell? ⟨bb, 4, none⟩ = some (.map (some mb)) := cell_later c1 c4
    clear hrun c4 c1
    cases ok
    · go_wp2_with fail
      go_ret2
      exact ⟨rfl, Upd.below (HA.out.mono (by omega)) HC1.out⟩
    · have hc : codeOf nm.data.toList = some v := by
        have h2 := HO.out
        have h1 := HV.out
        cases hq : codeOf nm.data.toList with
        | none => rw [hq] at h2; cases h2
        | some c => rw [hq] at h1; exact congrArg some h1
      obtain ⟨w2, hrun, hown, hgr⟩ := HM1.out.update (val := .int .i64 v) keyed_str Tryd.underlying85 (by unfold maxLen; omega) (key_str HS.out) rfl
      have hu := HA1.out.setNam hgr hown (names_put HN.out HM.out.isMap hc (keyed_str.key (key_str HS.out)))
      have HU := Lib.hid (hu.after HC1.out)
      clear hown hgr hu hc
      go_wp2_with fail
      go_ret2
      exact ⟨rfl, HU.out⟩
end Go.Proofs.YtlbgbpgjccbbjaaDoor.Asm
