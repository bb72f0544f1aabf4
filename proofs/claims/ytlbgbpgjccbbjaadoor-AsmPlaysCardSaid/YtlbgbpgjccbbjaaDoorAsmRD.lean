/-
  What the reference's Go and New of chapter 17 do. No condition beyond what each theorem names.
-/
import Derived.Test.YtlbgbpgjccbbjaaDoorAsmRC
namespace Go.Proofs.YtlbgbpgjccbbjaaDoor.Asm
open Go.RowKit Go.Maps Go.Proofs.YtlbgbpgjccbbjaaDoor.Op
set_option linter.unusedVariables false
theorem litF {nm : ByteArray} {l : List UInt8} (h : nm.data.toList ≠ l) : (nm.toList == l) = false := by rw [ByteArray.toList_eq]; simpa using h
theorem litT {nm : ByteArray} {l : List UInt8} (h : nm.data.toList = l) : (nm.toList == l) = true := by rw [ByteArray.toList_eq]; simpa using h
set_option maxRecDepth 100000 in
set_option maxHeartbeats 1000000 in
theorem rgo_no (nm lab : ByteArray) (b : Value) (w : World) (hc : goCode nm.data.toList = none) :
    Calls Tryd.prog 47 #[b, .string nm, .string lab] w fun e w' => e = .returned (.int .i64 1) ∧ w = w' := by
  have h1 : nm.data.toList ≠ [98, 114] := fun h => by rw [goCode, if_pos h] at hc; cases hc
  have h2 : nm.data.toList ≠ [98, 114, 95, 105, 102] := fun h => by rw [goCode, if_neg h1, if_pos h] at hc; cases hc
  have q1 := litF h1
  have q2 := litF h2
  clear hc h1 h2
  go_enter Tryd.func47, Tryd.ntmps47
  go_wp2_with fail
  go_ret
  exact ⟨rfl, rfl⟩
theorem goCode_code {l : List UInt8} {c : Int} (h : goCode l = some c) : codeOf l = some c := by
  unfold goCode at h
  by_cases h1 : l = [98, 114]
  · rw [if_pos h1] at h; cases h; rw [h1]; kernel_rfl
  · by_cases h2 : l = [98, 114, 95, 105, 102]
    · rw [if_neg h1, if_pos h2] at h; cases h; rw [h2]; kernel_rfl
    · rw [if_neg h1, if_neg h2] at h; cases h
def RRelL (w : World) (B rb : Nat) (P : ByteArray) (y : Rx) (s : St) (lab : List UInt8) (i : Value) (wr : World) : Prop := ∃ k : Nat, k ≤ s.opens.length ∧ i = .int .i64 k ∧ (∀ j, j < k → ∀ m', s.opens[s.opens.length - 1 - j]? = some m' → m'.label.data.toList ≠ lab) ∧ RAt wr B rb P y s ∧ Below w.heap.size w wr
set_option maxRecDepth 100000 in
set_option maxHeartbeats 4000000 in
theorem rgo_some (nm lab : ByteArray) (w : World) (B bb : Nat) (P : ByteArray) (x : Rx) (s : St) (h : RAt w B bb P x s) (hB : B ≤ w.heap.size) (hlc : s.code.length < 1000000) (hlo : s.opens.length < 1000000) (c : Int) (hc : goCode nm.data.toList = some c) (o : Option Nat) (hlab : labN lab.data.toList s.opens = o) :
    Calls Tryd.prog 47 #[.pointer (some ⟨bb, 0, none⟩), .string nm, .string lab] w fun e w' => e = .returned (.int .i64 (goAns o)) ∧ RUpd w B bb P x (goSt s c o) w' := by
  obtain ⟨i0, hi, hz0, hz1, hz2⟩ := info_of info_ins
  have HC := Lib.hid (goCode_code hc)
  have HO := Lib.hid hlab
  obtain ⟨cv, ov⟩ := x
  obtain ⟨a, cap, hov⟩ := ropens_form h
  subst hov
  have H0 := Lib.hid h
  have hq : (nm.data.toList = [98, 114]) ∨ (nm.data.toList ≠ [98, 114] ∧ nm.data.toList = [98, 114, 95, 105, 102]) := by
    unfold goCode at hc
    by_cases h1 : nm.data.toList = [98, 114]
    · exact .inl h1
    · by_cases h2 : nm.data.toList = [98, 114, 95, 105, 102]
      · exact .inr ⟨h1, h2⟩
      · rw [if_neg h1, if_neg h2] at hc; cases hc
  clear hc h hlab
  rcases hq with h1 | ⟨h1, h2⟩
  all_goals
    first
      | have q1 := litT h1
      | (have q1 := litF h1
         have q2 := litT h2
         clear h2)
    clear h1
    go_enter Tryd.func47, Tryd.ntmps47
    go_wp2_with fail
    refine (rcode_any nm w c true (by rw [HC.out]; rfl) (by rw [HC.out]; rfl)).mono ?_
    rintro e w1 ⟨rfl, c1⟩
    have HB := Lib.hid c1
    have HA := Lib.hid (H0.out.later c1)
    clear c1
    go_wp2_with fail
    go_loopw [9] (fun i wr => RRelL w B bb P ⟨cv, .slice a s.opens.length cap⟩ s lab.data.toList i wr) (fun i _ => s.opens.length - (intOf i).toNat)
    case atStart => exact ⟨0, Nat.zero_le _, rfl, fun j hj => by omega, HA.out, HB.out⟩
    case round =>
      obtain ⟨k, hk, rfl, hpre, hA, hb⟩ := hrel
      have HP := Lib.hid hpre
      have HA1 := Lib.hid hA
      have HB1 := Lib.hid hb
      clear hpre
      by_cases hlt : k < s.opens.length
      · obtain ⟨g, cap', hov⟩ := Go.Joins.ownsRow_form hA.ope (by omega)
        have hov1 : Value.slice a s.opens.length cap = .slice (some ⟨g, 0, none⟩) s.opens.length cap' := hov
        simp only [Value.slice.injEq] at hov1
        obtain ⟨rfl, _, rfl⟩ := hov1
        obtain ⟨i, hi9⟩ : ∃ i, s.opens.length = i + k + 1 := ⟨s.opens.length - 1 - k, by omega⟩
        obtain ⟨⟨mc, ml⟩, hm⟩ : ∃ m, s.opens[i]? = some m := ⟨_, List.getElem?_eq_getElem (by omega)⟩
        have d1 : wr.cell? ⟨g, i * 2 + 1, none⟩ = some (.string ml) := by
          rw [hA.ope.cellAt _ (by omega), openV_at _ i 1 ⟨mc, ml⟩ hm (by decide)]
          rfl
        obtain ⟨_, _, _, c3⟩ := hA.cells
        have e1 : IntKind.i64.wrap ((s.opens.length : Int) - 1) = (s.opens.length : Int) - 1 := IntWalk.i64_in _ (by omega)
        have e2 : IntKind.i64.wrap ((s.opens.length : Int) - 1 - k) = (i : Int) := by rw [show ((s.opens.length : Int) - 1 - k) = (i : Int) by omega]; exact IntWalk.i64_in _ (by omega)
        have hd : decide (k < s.opens.length) = true := decide_eq_true hlt
        have hil : (i : Int) < (s.opens.length : Int) := by omega
        have hi2 : s.opens.length - 1 - k = i := by omega
        have HI := Lib.hid hi9
        have HM := Lib.hid hm
        have HI2 := Lib.hid hi2
        clear hA hb hov hi9 hm hi2
        by_cases he : ml.data.toList = lab.data.toList
        · have hq := eqT he
          have ho : o = some k := by rw [← HO.out]; exact labN_at hlt (by rw [HI2.out]; exact HM.out) HP.out he
          subst ho
          clear he
          go_wp2_with fail
          go_quiet (fail)
          have hA2 := Lib.hid (HA1.out.kept (w' := wr.drewN nq) (fun _ _ => rfl))
          have hB2 : Below w.heap.size w (wr.drewN nq) := HB1.out.trans ⟨rfl, rfl, rfl, Nat.le_refl _, fun _ _ => rfl⟩
          have HB2 := Lib.hid hB2
          clear hB2 c3 d1
          obtain ⟨W4, hW4⟩ : ∃ W4, wr.drewN nq = W4 := ⟨_, rfl⟩
          rw [hW4] at hA2 HB2 ⊢
          clear hW4
          obtain ⟨_, _, k2, _⟩ := hA2.out.cells
          have HN := Lib.hid (news_at W4 (Ins.cells ⟨c, k, 0⟩).toArray 36 (Ins.cells ⟨c, k, 0⟩) rfl)
          have HC4 := Lib.hid (show s.code.length + 1 ≤ maxLen by unfold maxLen; omega)
          have HC5 := Lib.hid (show (s.code.length + 1) * 48 ≤ 140737488355328 by omega)
          have HC6 := Lib.hid (show B ≤ (W4.alloc (.cells (Ins.cells ⟨c, k, 0⟩).toArray 36)).heap.size by have := HB2.out.size; simp; omega)
          go_wp2_with (at_builtin; refine wpList_append_own2 _ rfl _ _ 49 rfl B 36 i0 zeroIns 4 48 Tryd.underlying49 hi hz0 hz1 hz2 rfl (by decide) _ _ _ rfl (hA2.out.cod.alloc _) ⟨W4.heap.size, 0, none⟩ 1 1 (Ins.cells ⟨c, k, 0⟩) rfl rfl HN.out (one_ins _) (by decide) HC4.out HC5.out HC6.out ?_)
          intro v' w3 hown hgrow hnb
          obtain ⟨g', cap', rfl⟩ := Go.Joins.ownsRow_form hown (by omega)
          have hne : cv.ownBlock ≠ some bb := fun e => (hA2.out.rest.1 bb e).1 rfl
          have hbx : w3.heap[bb]? = W4.heap[bb]? := (grown_alloc hgrow).block bb hA2.out.lt (Ne.symm hne)
          have fz1 : w3.frozen? ⟨bb, 2, none⟩ = false := (World.frozen?_of_block (a := ⟨bb, 2, none⟩) hbx).trans (hA2.out.frozen 2)
          have cz : w3.cell? ⟨bb, 2, none⟩ = some cv := (World.cell?_of_block (a := ⟨bb, 2, none⟩) hbx).trans k2
          have HU5 := Lib.hid ((rcode_end2 hA2.out hgrow hown hnb).after HB2.out)
          clear hown hgrow hnb hne hbx
          go_wp2_with fail
          go_ret
          exact ⟨rfl, HU5.out⟩
        · have hq := eqF he
          have HQ := Lib.hid he
          clear he
          go_wp2_with fail
          go_quiet (fail)
          go_wp2_with fail
          go_roundw
          case rel => exact ⟨k + 1, by omega, by go_num, fun j hj m' hm' => by rcases (show j < k ∨ j = k by omega) with h9 | rfl; exact HP.out j h9 m' hm'; rw [HI2.out, HM.out] at hm'; cases hm'; exact HQ.out, HA1.out.kept (fun _ _ => rfl), HB1.out.trans ⟨rfl, rfl, rfl, Nat.le_refl _, fun _ _ => rfl⟩⟩
          case measure => simp [intOf]; omega
      · obtain rfl : k = s.opens.length := by omega
        have hd : decide (s.opens.length < s.opens.length) = false := by simp
        have ho : o = none := by rw [← HO.out]; exact labN_not HP.out
        subst ho
        obtain ⟨_, _, _, c3⟩ := hA.cells
        clear hA hb
        go_wp2_with fail
        go_ret
        exact ⟨rfl, RUpd.below H0.out HB1.out⟩
end Go.Proofs.YtlbgbpgjccbbjaaDoor.Asm
