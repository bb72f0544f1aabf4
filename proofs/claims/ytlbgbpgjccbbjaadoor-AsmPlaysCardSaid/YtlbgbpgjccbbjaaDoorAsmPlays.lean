/-
  What AsmPlays of chapter 17 answers. No condition beyond what each theorem names.
-/
import Derived.Test.YtlbgbpgjccbbjaaDoorAsmDoes
import Derived.Deep.QuietTactic
import Derived.BigQuiet
namespace Go.Proofs.YtlbgbpgjccbbjaaDoor.Asm
open Go.RowKit Go.Maps Go.Proofs.YtlbgbpgjccbbjaaDoor.Op
set_option linter.unusedVariables false
def RelPl (w : World) (bb rb : Nat) (P : ByteArray) (l : List Deed) (i : Value) (wr : World) : Prop := ∃ (k : Nat) (s : St), k ≤ l.length ∧ k ≤ 80 ∧ i = .int .i64 k ∧ Pair wr w.heap.size bb rb P k s s noK ∧ Below w.heap.size w wr
theorem pair_new {w2 w3 : World} {B bb rb n : Nat} {P : ByteArray} {s t : St} {y : Rx} (hA : AtK w2 B bb n s noK) (hR : RAt w3 w2.heap.size rb P y t) (hb : Below w2.heap.size w2 w3) : Pair w3 B bb rb P n s t noK := by
  have hB := hA.env.size
  have hA3 := hA.later hb
  obtain ⟨x, h1, h2, h3, f⟩ := hA
  obtain ⟨x3, g1, g2, g3, f3⟩ := hA3
  refine ⟨y, ⟨x, h1.later hb, h2.below hb, fun b hb' => ?_, f⟩, ⟨hR.box, Nat.le_trans hB hR.low, hR.par, hR.cod.mono hB, hR.ope.mono hB⟩, fun b hb' => hb'.elim⟩
  rcases hb' with hb' | hb'
  · have := hR.foot_lt b hb'
    refine ⟨this.2, fun hf => ?_⟩
    have := (h1.foot_lt b hf).2
    omega
  · exact hb'.elim
theorem Pair.cellO {w : World} {B bb rb n : Nat} {P : ByteArray} {s t : St} {K : Nat → Prop} (h : Pair w B bb rb P n s t K) : ∃ a cap, w.cell? ⟨rb, 3, none⟩ = some (.slice a t.opens.length cap) := by
  obtain ⟨⟨cv, ov⟩, h1, h2, h3⟩ := h
  obtain ⟨a, cap, hov⟩ := ropens_form h2
  subst hov
  exact ⟨a, cap, h2.cells.2.2.2⟩
theorem Pair.at {w : World} {B bb rb n : Nat} {P : ByteArray} {s t : St} {K : Nat → Prop} (h : Pair w B bb rb P n s t K) : AtK w B bb n s noK := by
  obtain ⟨y, h1, _⟩ := h
  exact h1.sub (fun b hb => hb.elim)
theorem nest_q {w : World} {B bb rb n N : Nat} {P : ByteArray} {s t : St} {K : Nat → Prop} (h : Pair w B bb rb P n s t K) (hN : s.opens.length = N) (m : Nat) :
    Calls Tryd.prog 32 #[.pointer (some ⟨bb, 0, none⟩)] (w.drewN m) fun e w' => e = .returned (.int .i64 N) ∧ w' = w.drewN m := by
  have h2 := k_nest (h.later (w' := w.drewN m) ⟨rfl, rfl, rfl, Nat.le_refl _, fun _ _ => rfl⟩).at
  rw [hN] at h2
  exact h2.mono fun e w' he => ⟨he.1, he.2.symm⟩
set_option maxRecDepth 100000 in
set_option maxHeartbeats 8000000 in
theorem plays_bad (P : ByteArray) (hs : P.size ≤ maxLen) (lv : Value) (w : World) (hE : OpEnv w) (hn : newOk P.data.toList = false) : Calls Tryd.prog 10 #[.string P, lv] w fun e w' => e = .returned (.bool true) ∧ Below w.heap.size w w' := by
  have HP := Lib.hid hE
  have HN := Lib.hid hn
  clear hE hn
  go_enter Tryd.func10, Tryd.ntmps10
  go_wp2_with fail
  refine (examples17 w HP.out).mono ?_
  rintro e w0 ⟨rfl, c0⟩
  have HB := Lib.hid c0
  clear c0
  go_wp2_with fail
  refine (new_bad P w0 hs HN.out).mono ?_
  rintro e w1 ⟨rfl, c1⟩
  have HB := Lib.hid (HB.out.trans (c1.mono HB.out.size))
  clear c1
  go_wp2_with fail
  refine (rnew_bad P w1 hs HN.out).mono ?_
  rintro e w2 ⟨rfl, rfl⟩
  go_wp2_with fail
  go_ret
  exact ⟨rfl, HB.out⟩
set_option maxRecDepth 100000 in
set_option maxHeartbeats 8000000 in
theorem plays_ok (P : ByteArray) (lv : Value) (l : List Deed) (w : World) (hE : OpEnv w) (hl : DeedsAt w lv l) (hn : newOk P.data.toList = true) : Calls Tryd.prog 10 #[.string P, lv] w fun e w' => e = .returned (.bool true) ∧ Below w.heap.size w w' := by
  obtain ⟨la, lc, rfl, hlen, hc⟩ := hl
  have HE := Lib.hid (Env.start hE)
  have HP := Lib.hid hE
  have HC := Lib.hid hc
  have HN := Lib.hid hn
  clear hE hc hn
  go_enter Tryd.func10, Tryd.ntmps10
  go_wp2_with fail
  refine (examples17 w HP.out).mono ?_
  rintro e w0 ⟨rfl, c0⟩
  have HB := Lib.hid c0
  have HE1 := Lib.hid (HE.out.later c0)
  clear c0
  go_wp2_with fail
  refine (k_new P w0 noK (fun b hb => hb.elim) HN.out).mono ?_
  rintro e w1 ⟨bb, rfl, hlo, hA, c1⟩
  have HA := Lib.hid (hA _ HE1.out)
  have HB := Lib.hid (HB.out.trans (c1.mono HB.out.size))
  clear hA c1 hlo
  go_wp2_with fail
  refine (rnew_ok P w1 HN.out).mono ?_
  rintro e w2 ⟨rb, rfl, hR, c2⟩
  have HPa := Lib.hid (pair_new HA.out hR c2)
  have HB := Lib.hid (HB.out.trans (c2.mono HB.out.size))
  clear hR c2
  go_wp2_with fail
  go_loopw [9] (fun i wr => RelPl w bb rb P l i wr) (fun i _ => 80 - (intOf i).toNat)
  case atStart => exact ⟨0, _, Nat.zero_le _, Nat.zero_le _, rfl, HPa.out, HB.out⟩
  case round =>
    obtain ⟨k, s, hkl, hk80, rfl, hPr, hB⟩ := hrel
    have HPr := Lib.hid hPr
    have HB2 := Lib.hid hB
    clear hPr
    by_cases hlt : k < l.length ∧ k < 80
    · obtain ⟨hlt1, hlt2⟩ := hlt
      obtain ⟨⟨kd, nm, lab, dn, dm, dt⟩, hd⟩ : ∃ d, l[k]? = some d := ⟨_, List.getElem?_eq_getElem hlt1⟩
      obtain ⟨hok, b, off, rfl, hb, hcell⟩ := HC.out k _ hd
      have HOK := Lib.hid hok
      have x0 : wr.cell? ⟨b, off + k * 6, none⟩ = some (.int .i64 kd) := cell_later hB (hcell 0 (by decide))
      have x1 : wr.cell? ⟨b, off + k * 6 + 1, none⟩ = some (.string nm) := cell_later hB (hcell 1 (by decide))
      have x2 : wr.cell? ⟨b, off + k * 6 + 2, none⟩ = some (.string lab) := cell_later hB (hcell 2 (by decide))
      have x3 : wr.cell? ⟨b, off + k * 6 + 3, none⟩ = some (.int .i64 dn) := cell_later hB (hcell 3 (by decide))
      have x4 : wr.cell? ⟨b, off + k * 6 + 4, none⟩ = some (.int .i64 dm) := cell_later hB (hcell 4 (by decide))
      have x5 : wr.cell? ⟨b, off + k * 6 + 5, none⟩ = some (.int .u8 (dt.toNat : Int)) := cell_later hB (hcell 5 (by decide))
      have d1 : decide (k < l.length) = true := decide_eq_true hlt1
      have d2 : decide (k < 80) = true := decide_eq_true hlt2
      clear hB hcell hd hok
      go_wp2_with fail
      refine (does_any ⟨kd, nm, lab, dn, dm, dt⟩ HOK.out HPr.out (by omega)).mono ?_
      rintro e w3 ⟨rfl, s2, hP3, hB3⟩
      have HP3 := Lib.hid hP3
      have HB3 := Lib.hid (HB2.out.trans hB3)
      obtain ⟨a, cap, o3⟩ := hP3.cellO
      obtain ⟨N, hN⟩ : ∃ N, s2.opens.length = N := ⟨_, rfl⟩
      have hNs : N ≤ 256 := by have := (hP3.few (by omega)).1; omega
      rw [hN] at o3
      have HNN := Lib.hid hN
      have b1 : ((N : Int) != (N : Int)) = false := by simp
      clear hP3 hB3 hN
      have HQ := Lib.hid (fun m : Nat => nest_q HP3.out HNN.out m)
      go_wp2_with fail
      go_quiet ((go_at_call 32; exact Calls.quiet_of_same (HQ.out _)))
      go_wp2_with fail
      go_roundw
      case rel => exact ⟨k + 1, s2, by omega, by omega, by go_num, HP3.out.later ⟨rfl, rfl, rfl, Nat.le_refl _, fun _ _ => rfl⟩, HB3.out.trans ⟨rfl, rfl, rfl, Nat.le_refl _, fun _ _ => rfl⟩⟩
      case measure => simp [intOf]; omega
    · obtain ⟨W5, hW5⟩ : ∃ W5, W5 = wr := ⟨_, rfl⟩
      subst hW5
      have hex : decide (k < l.length) = false ∨ (decide (k < l.length) = true ∧ decide ((k : Int) < 80) = false) := by
        by_cases h : k < l.length
        · exact .inr ⟨decide_eq_true h, decide_eq_false (fun h2 => hlt ⟨h, by omega⟩)⟩
        · exact .inl (decide_eq_false h)
      clear hB hlt
      rcases hex with d1 | ⟨d1, d2⟩
      all_goals
        go_wp2_with fail
        refine (pdone_any HPr.out (by omega) 3).mono ?_
        rintro e w3 ⟨rfl, c3⟩
        have HB3 := Lib.hid (HB2.out.trans (c3.mono HB2.out.size))
        clear c3
        go_wp2_with fail
        go_ret
        exact ⟨rfl, HB3.out⟩
theorem plays_walk (P : ByteArray) (hs : P.size ≤ maxLen) (lv : Value) (l : List Deed) (w : World) (hE : OpEnv w) (hl : DeedsAt w lv l) : Calls Tryd.prog 10 #[.string P, lv] w fun e w' => e = .returned (.bool true) ∧ Below w.heap.size w w' := by
  cases hn : newOk P.data.toList
  · exact plays_bad P hs lv w hE hn
  · exact plays_ok P lv l w hE hl hn
end Go.Proofs.YtlbgbpgjccbbjaaDoor.Asm
