/-
  What AsmRefuses of chapter 17 answers. No condition beyond what each theorem names.
-/
import Derived.Test.YtlbgbpgjccbbjaaDoorAsmEx
namespace Go.Proofs.YtlbgbpgjccbbjaaDoor.Asm
open Go.RowKit Go.Maps Go.Proofs.YtlbgbpgjccbbjaaDoor.Op
set_option linter.unusedVariables false
theorem name_of_code {nm : List UInt8} {c : Int} (h : codeOf nm = some c) : ∃ i, opInfo c = some i ∧ i.name.data.toList = nm := by
  unfold codeOf at h
  obtain ⟨e, he, rfl⟩ := Option.map_eq_some_iff.1 h
  have h1 := List.find?_some he
  exact ⟨e.2, opInfo_of_mem (List.mem_of_find?_eq_some he) codes_apart, by simpa using h1⟩
theorem opInfo_2 : (opInfo 2).map (fun i => i.name.data.toList) = some [98, 108, 111, 99, 107] := by kernel_rfl
theorem opInfo_3 : (opInfo 3).map (fun i => i.name.data.toList) = some [108, 111, 111, 112] := by kernel_rfl
theorem opInfo_4 : (opInfo 4).map (fun i => i.name.data.toList) = some [105, 102] := by kernel_rfl
theorem open_not {nm : List UInt8} (h2 : nm ≠ [98, 108, 111, 99, 107]) (h3 : nm ≠ [108, 111, 111, 112]) (h4 : nm ≠ [105, 102]) (k : UInt8) : openOk nm k = none := by
  unfold openOk
  cases hc : codeOf nm with
  | none => rfl
  | some c =>
    obtain ⟨i, hi, hn⟩ := name_of_code hc
    have hb : blockB c = false := by
      cases hb : blockB c with
      | false => rfl
      | true =>
        have hq : c = 2 ∨ c = 3 ∨ c = 4 := by simp [blockB] at hb; omega
        rcases hq with rfl | rfl | rfl
        · have := opInfo_2; rw [hi] at this; exact absurd ((hn.symm.trans (Option.some.inj this))) h2
        · have := opInfo_3; rw [hi] at this; exact absurd ((hn.symm.trans (Option.some.inj this))) h3
        · have := opInfo_4; rw [hi] at this; exact absurd ((hn.symm.trans (Option.some.inj this))) h4
    simp [hb]
theorem codeOf_const : codeOf [105, 51, 50, 46, 99, 111, 110, 115, 116] = some 65 := by kernel_rfl
theorem const_in (s : St) {n : Int} (h0 : -2147483648 ≤ n) (h1 : n < 2147483648) : opR s [105, 51, 50, 46, 99, 111, 110, 115, 116] n 0 = (0, { s with code := s.code ++ [⟨65, n, 0⟩] }) := by
  have hr : rightB 65 n 0 [] = true := by
    rw [right_tail i65 _ _ (.inl rfl), tail_7, show wrap32 n = n by unfold wrap32; omega]
    simp
  unfold opR opOk
  rw [codeOf_const]
  simp [hr, show specialB 65 = false by decide]
theorem const_out (s : St) {n : Int} (h : n < -2147483648 ∨ 2147483648 ≤ n) : opR s [105, 51, 50, 46, 99, 111, 110, 115, 116] n 0 = (1, s) := by
  have hr : rightB 65 n 0 [] = false := by
    rw [right_tail i65 _ _ (.inl rfl), tail_7]
    have : (n == wrap32 n) = false := beq_eq_false_iff_ne.2 (by unfold wrap32; omega)
    rw [this]
    decide
  unfold opR opOk
  rw [codeOf_const]
  simp [hr]
set_option maxRecDepth 100000 in
set_option maxHeartbeats 4000000 in
theorem refuses_other_in (nm : ByteArray) (hs : nm.size ≤ maxLen) (g2 : nm.data.toList ≠ [98, 108, 111, 99, 107]) (g3 : nm.data.toList ≠ [108, 111, 111, 112]) (g4 : nm.data.toList ≠ [105, 102]) (n : Int) (w : World) (hE : OpEnv w) (hn0 : -9223372036854775808 ≤ n) (hn1 : n ≤ 9223372036854775807) (h0 : -2147483648 ≤ n) (h1 : n < 2147483648) : Calls Tryd.prog 11 #[.string nm, .int .i64 n] w fun e w' => e = .returned (.bool true) ∧ Below w.heap.size w w' := by
  have HE := Lib.hid (Env.start hE)
  have HP := Lib.hid hE
  clear hE
  have HO := Lib.hid (open_not g2 g3 g4 64)
  have HS := Lib.hid hs
  obtain ⟨v, hv⟩ : ∃ v, (codeOf nm.data.toList).getD 0 = v := ⟨_, rfl⟩
  obtain ⟨known, hk⟩ : ∃ b, (codeOf nm.data.toList).isSome = b := ⟨_, rfl⟩
  have HV := Lib.hid hv
  have HK := Lib.hid hk
  have f2 : (nm.toList == [98, 108, 111, 99, 107]) = false := by rw [ByteArray.toList_eq]; exact beq_eq_false_iff_ne.2 g2
  have f3 : (nm.toList == [108, 111, 111, 112]) = false := by rw [ByteArray.toList_eq]; exact beq_eq_false_iff_ne.2 g3
  have f4 : (nm.toList == [105, 102]) = false := by rw [ByteArray.toList_eq]; exact beq_eq_false_iff_ne.2 g4
  clear hv hk g2 g3 g4 hs
  go_enter Tryd.func11, Tryd.ntmps11
  go_wp2_with fail
  refine (examples17 w HP.out).mono ?_
  rintro e w0 ⟨rfl, c0⟩
  have HB := Lib.hid c0
  have HE1 := Lib.hid (HE.out.later c0)
  clear c0
  go_wp2_with fail
  refine (k_new ⟨#[]⟩ w0 noK (fun b hb => hb.elim) (by decide)).mono ?_
  rintro e w1 ⟨bb, rfl, hlo, hA, c1⟩
  have HA := Lib.hid (hA _ HE1.out)
  have HB := Lib.hid (HB.out.trans (c1.mono HB.out.size))
  clear hA c1 hlo
  go_wp2_with fail
  refine (code_any nm w1 HA.out.env.op v known HV.out HK.out).mono ?_
  rintro e w2 ⟨rfl, c2⟩
  have HB := Lib.hid (HB.out.trans (c2.mono HB.out.size))
  have HA := Lib.hid (HA.out.later c2)
  clear c2
  go_wp2_with fail
  refine (k_close HA.out (by decide) 1 ⟨0, [], [], []⟩ (by rfl)).mono ?_
  rintro e w3 ⟨rfl, hA, hS⟩
  have HA := Lib.hid hA
  have HB := Lib.hid (HB.out.trans hS.1)
  clear hA hS
  go_wp2_with fail
  refine (k_else HA.out (by decide) 1 ⟨0, [], [], []⟩ (by rfl)).mono ?_
  rintro e w3 ⟨rfl, hA, hS⟩
  have HA := Lib.hid hA
  have HB := Lib.hid (HB.out.trans hS.1)
  clear hA hS
  go_wp2_with fail
  refine (k_go HA.out (by decide) ⟨#[98, 114]⟩ ⟨#[120]⟩ (by unfold maxLen; decide) 13 ⟨0, [], [], []⟩ (by kernel_rfl)).mono ?_
  rintro e w3 ⟨rfl, hA, hS⟩
  have HA := Lib.hid hA
  have HB := Lib.hid (HB.out.trans hS.1)
  clear hA hS
  go_wp2_with fail
  refine (k_op HA.out (by decide) ⟨#[101, 110, 100]⟩ 0 0 (by unfold maxLen; decide) 1 ⟨0, [], [], []⟩ (by kernel_rfl)).mono ?_
  rintro e w3 ⟨rfl, hA, hS⟩
  have HA := Lib.hid hA
  have HB := Lib.hid (HB.out.trans hS.1)
  clear hA hS
  go_wp2_with fail
  refine (k_open HA.out (by decide) nm ⟨#[120]⟩ 64 HS.out 1 ⟨0, [], [], []⟩ (by unfold openR; rw [HO.out])).mono ?_
  rintro e w3 ⟨rfl, hA, hS⟩
  have HA := Lib.hid hA
  have HB := Lib.hid (HB.out.trans hS.1)
  clear hA hS
  go_wp2_with fail
  refine (k_op HA.out (by decide) ⟨#[105, 51, 50, 46, 99, 111, 110, 115, 116]⟩ n 0 (by unfold maxLen; decide) 0 ⟨0, [], [⟨65, n, 0⟩], []⟩ (const_in _ h0 h1)).mono ?_
  rintro e w3 ⟨rfl, hA, hS⟩
  have HA := Lib.hid hA
  have HB := Lib.hid (HB.out.trans hS.1)
  clear hA hS
  go_wp2_with fail
  refine (k_local HA.out (by decide) 64 0 1 ⟨0, [], [⟨65, n, 0⟩], []⟩ (by rfl)).mono ?_
  rintro e w3 ⟨rfl, hA, hS⟩
  have HA := Lib.hid hA
  have HB := Lib.hid (HB.out.trans hS.1)
  clear hA hS
  go_wp2_with fail
  refine (k_op HA.out (by decide) ⟨#[110, 111, 112]⟩ 0 1 (by unfold maxLen; decide) 1 ⟨0, [], [⟨65, n, 0⟩], []⟩ (by unfold opR; rw [show opOk [110, 111, 112] 0 1 = none by kernel_rfl])).mono ?_
  rintro e w3 ⟨rfl, hA, hS⟩
  have HA := Lib.hid hA
  have HB := Lib.hid (HB.out.trans hS.1)
  clear hA hS
  go_wp2_with fail
  all_goals
    refine wp_loop_rounds 1 ?_
    rw [rounds_succ]
    go_wp2_with fail
    refine (k_nest HA.out).mono ?_
    rintro e w4 ⟨rfl, rfl⟩
    go_wp2_with fail
    refine (k_done HA.out (by decide) 0 rfl (by decide) (by decide)).mono ?_
    rintro e w8 ⟨g, cap, rfl, ho, hA, c8⟩
    have HB := Lib.hid (HB.out.trans (c8.mono HB.out.size))
    clear hA ho c8
    have t0 : decide (-2147483648 ≤ n) = true := decide_eq_true h0
    have t1 : decide (n < 2147483648) = true := decide_eq_true h1
    go_wp2_with fail
    go_ret
    exact ⟨rfl, HB.out.alloc HB.out.size _⟩
set_option maxRecDepth 100000 in
set_option maxHeartbeats 4000000 in
theorem refuses_other_out (nm : ByteArray) (hs : nm.size ≤ maxLen) (g2 : nm.data.toList ≠ [98, 108, 111, 99, 107]) (g3 : nm.data.toList ≠ [108, 111, 111, 112]) (g4 : nm.data.toList ≠ [105, 102]) (n : Int) (w : World) (hE : OpEnv w) (hn0 : -9223372036854775808 ≤ n) (hn1 : n ≤ 9223372036854775807) (h0 : n < -2147483648 ∨ 2147483648 ≤ n) : Calls Tryd.prog 11 #[.string nm, .int .i64 n] w fun e w' => e = .returned (.bool true) ∧ Below w.heap.size w w' := by
  have HE := Lib.hid (Env.start hE)
  have HP := Lib.hid hE
  clear hE
  have HO := Lib.hid (open_not g2 g3 g4 64)
  have HS := Lib.hid hs
  obtain ⟨v, hv⟩ : ∃ v, (codeOf nm.data.toList).getD 0 = v := ⟨_, rfl⟩
  obtain ⟨known, hk⟩ : ∃ b, (codeOf nm.data.toList).isSome = b := ⟨_, rfl⟩
  have HV := Lib.hid hv
  have HK := Lib.hid hk
  have f2 : (nm.toList == [98, 108, 111, 99, 107]) = false := by rw [ByteArray.toList_eq]; exact beq_eq_false_iff_ne.2 g2
  have f3 : (nm.toList == [108, 111, 111, 112]) = false := by rw [ByteArray.toList_eq]; exact beq_eq_false_iff_ne.2 g3
  have f4 : (nm.toList == [105, 102]) = false := by rw [ByteArray.toList_eq]; exact beq_eq_false_iff_ne.2 g4
  clear hv hk g2 g3 g4 hs
  go_enter Tryd.func11, Tryd.ntmps11
  go_wp2_with fail
  refine (examples17 w HP.out).mono ?_
  rintro e w0 ⟨rfl, c0⟩
  have HB := Lib.hid c0
  have HE1 := Lib.hid (HE.out.later c0)
  clear c0
  go_wp2_with fail
  refine (k_new ⟨#[]⟩ w0 noK (fun b hb => hb.elim) (by decide)).mono ?_
  rintro e w1 ⟨bb, rfl, hlo, hA, c1⟩
  have HA := Lib.hid (hA _ HE1.out)
  have HB := Lib.hid (HB.out.trans (c1.mono HB.out.size))
  clear hA c1 hlo
  go_wp2_with fail
  refine (code_any nm w1 HA.out.env.op v known HV.out HK.out).mono ?_
  rintro e w2 ⟨rfl, c2⟩
  have HB := Lib.hid (HB.out.trans (c2.mono HB.out.size))
  have HA := Lib.hid (HA.out.later c2)
  clear c2
  go_wp2_with fail
  refine (k_close HA.out (by decide) 1 ⟨0, [], [], []⟩ (by rfl)).mono ?_
  rintro e w3 ⟨rfl, hA, hS⟩
  have HA := Lib.hid hA
  have HB := Lib.hid (HB.out.trans hS.1)
  clear hA hS
  go_wp2_with fail
  refine (k_else HA.out (by decide) 1 ⟨0, [], [], []⟩ (by rfl)).mono ?_
  rintro e w3 ⟨rfl, hA, hS⟩
  have HA := Lib.hid hA
  have HB := Lib.hid (HB.out.trans hS.1)
  clear hA hS
  go_wp2_with fail
  refine (k_go HA.out (by decide) ⟨#[98, 114]⟩ ⟨#[120]⟩ (by unfold maxLen; decide) 13 ⟨0, [], [], []⟩ (by kernel_rfl)).mono ?_
  rintro e w3 ⟨rfl, hA, hS⟩
  have HA := Lib.hid hA
  have HB := Lib.hid (HB.out.trans hS.1)
  clear hA hS
  go_wp2_with fail
  refine (k_op HA.out (by decide) ⟨#[101, 110, 100]⟩ 0 0 (by unfold maxLen; decide) 1 ⟨0, [], [], []⟩ (by kernel_rfl)).mono ?_
  rintro e w3 ⟨rfl, hA, hS⟩
  have HA := Lib.hid hA
  have HB := Lib.hid (HB.out.trans hS.1)
  clear hA hS
  go_wp2_with fail
  refine (k_open HA.out (by decide) nm ⟨#[120]⟩ 64 HS.out 1 ⟨0, [], [], []⟩ (by unfold openR; rw [HO.out])).mono ?_
  rintro e w3 ⟨rfl, hA, hS⟩
  have HA := Lib.hid hA
  have HB := Lib.hid (HB.out.trans hS.1)
  clear hA hS
  go_wp2_with fail
  refine (k_op HA.out (by decide) ⟨#[105, 51, 50, 46, 99, 111, 110, 115, 116]⟩ n 0 (by unfold maxLen; decide) 1 ⟨0, [], [], []⟩ (const_out _ h0)).mono ?_
  rintro e w3 ⟨rfl, hA, hS⟩
  have HA := Lib.hid hA
  have HB := Lib.hid (HB.out.trans hS.1)
  clear hA hS
  go_wp2_with fail
  refine (k_local HA.out (by decide) 64 0 1 ⟨0, [], [], []⟩ (by rfl)).mono ?_
  rintro e w3 ⟨rfl, hA, hS⟩
  have HA := Lib.hid hA
  have HB := Lib.hid (HB.out.trans hS.1)
  clear hA hS
  go_wp2_with fail
  refine (k_op HA.out (by decide) ⟨#[110, 111, 112]⟩ 0 1 (by unfold maxLen; decide) 1 ⟨0, [], [], []⟩ (by unfold opR; rw [show opOk [110, 111, 112] 0 1 = none by kernel_rfl])).mono ?_
  rintro e w3 ⟨rfl, hA, hS⟩
  have HA := Lib.hid hA
  have HB := Lib.hid (HB.out.trans hS.1)
  clear hA hS
  go_wp2_with fail
  all_goals
    refine wp_loop_rounds 1 ?_
    rw [rounds_succ]
    go_wp2_with fail
    refine (k_nest HA.out).mono ?_
    rintro e w4 ⟨rfl, rfl⟩
    go_wp2_with fail
    refine (k_done HA.out (by decide) 0 rfl (by decide) (by decide)).mono ?_
    rintro e w8 ⟨g, cap, rfl, ho, hA, c8⟩
    have HB := Lib.hid (HB.out.trans (c8.mono HB.out.size))
    clear hA ho c8
    rcases h0 with h0 | h0
    · have t0 : decide (-2147483648 ≤ n) = false := decide_eq_false (by omega)
      go_wp2_with fail
      go_ret
      exact ⟨rfl, HB.out.alloc HB.out.size _⟩
    · have t0 : decide (-2147483648 ≤ n) = true := decide_eq_true (by omega)
      have t1 : decide (n < 2147483648) = false := decide_eq_false (by omega)
      go_wp2_with fail
      go_ret
      exact ⟨rfl, HB.out.alloc HB.out.size _⟩
set_option maxRecDepth 100000 in
set_option maxHeartbeats 4000000 in
theorem refuses_block_in (n : Int) (w : World) (hE : OpEnv w) (hn0 : -9223372036854775808 ≤ n) (hn1 : n ≤ 9223372036854775807) (h0 : -2147483648 ≤ n) (h1 : n < 2147483648) : Calls Tryd.prog 11 #[.string ⟨#[98, 108, 111, 99, 107]⟩, .int .i64 n] w fun e w' => e = .returned (.bool true) ∧ Below w.heap.size w w' := by
  have HE := Lib.hid (Env.start hE)
  have HP := Lib.hid hE
  clear hE
  go_enter Tryd.func11, Tryd.ntmps11
  go_wp2_with fail
  refine (examples17 w HP.out).mono ?_
  rintro e w0 ⟨rfl, c0⟩
  have HB := Lib.hid c0
  have HE1 := Lib.hid (HE.out.later c0)
  clear c0
  go_wp2_with fail
  refine (k_new ⟨#[]⟩ w0 noK (fun b hb => hb.elim) (by decide)).mono ?_
  rintro e w1 ⟨bb, rfl, hlo, hA, c1⟩
  have HA := Lib.hid (hA _ HE1.out)
  have HB := Lib.hid (HB.out.trans (c1.mono HB.out.size))
  clear hA c1 hlo
  go_wp2_with fail
  refine (code_any ⟨#[98, 108, 111, 99, 107]⟩ w1 HA.out.env.op 2 true (by kernel_rfl) (by kernel_rfl)).mono ?_
  rintro e w2 ⟨rfl, c2⟩
  have HB := Lib.hid (HB.out.trans (c2.mono HB.out.size))
  have HA := Lib.hid (HA.out.later c2)
  clear c2
  go_wp2_with fail
  refine (k_close HA.out (by decide) 1 ⟨0, [], [], []⟩ (by rfl)).mono ?_
  rintro e w3 ⟨rfl, hA, hS⟩
  have HA := Lib.hid hA
  have HB := Lib.hid (HB.out.trans hS.1)
  clear hA hS
  go_wp2_with fail
  refine (k_else HA.out (by decide) 1 ⟨0, [], [], []⟩ (by rfl)).mono ?_
  rintro e w3 ⟨rfl, hA, hS⟩
  have HA := Lib.hid hA
  have HB := Lib.hid (HB.out.trans hS.1)
  clear hA hS
  go_wp2_with fail
  refine (k_go HA.out (by decide) ⟨#[98, 114]⟩ ⟨#[120]⟩ (by unfold maxLen; decide) 13 ⟨0, [], [], []⟩ (by kernel_rfl)).mono ?_
  rintro e w3 ⟨rfl, hA, hS⟩
  have HA := Lib.hid hA
  have HB := Lib.hid (HB.out.trans hS.1)
  clear hA hS
  go_wp2_with fail
  refine (k_op HA.out (by decide) ⟨#[101, 110, 100]⟩ 0 0 (by unfold maxLen; decide) 1 ⟨0, [], [], []⟩ (by kernel_rfl)).mono ?_
  rintro e w3 ⟨rfl, hA, hS⟩
  have HA := Lib.hid hA
  have HB := Lib.hid (HB.out.trans hS.1)
  clear hA hS
  go_wp2_with fail
  refine (k_open HA.out (by decide) ⟨#[98, 108, 111, 99, 107]⟩ ⟨#[120]⟩ 64 (by unfold maxLen; decide) 0 ⟨0, [], [⟨2, 64, 0⟩], [⟨2, ⟨#[120]⟩⟩]⟩ (by kernel_rfl)).mono ?_
  rintro e w3 ⟨rfl, hA, hS⟩
  have HA := Lib.hid hA
  have HB := Lib.hid (HB.out.trans hS.1)
  clear hA hS
  go_wp2_with fail
  refine (k_op HA.out (by decide) ⟨#[105, 51, 50, 46, 99, 111, 110, 115, 116]⟩ n 0 (by unfold maxLen; decide) 0 ⟨0, [], [⟨2, 64, 0⟩, ⟨65, n, 0⟩], [⟨2, ⟨#[120]⟩⟩]⟩ (const_in _ h0 h1)).mono ?_
  rintro e w3 ⟨rfl, hA, hS⟩
  have HA := Lib.hid hA
  have HB := Lib.hid (HB.out.trans hS.1)
  clear hA hS
  go_wp2_with fail
  refine (k_local HA.out (by decide) 64 0 1 ⟨0, [], [⟨2, 64, 0⟩, ⟨65, n, 0⟩], [⟨2, ⟨#[120]⟩⟩]⟩ (by rfl)).mono ?_
  rintro e w3 ⟨rfl, hA, hS⟩
  have HA := Lib.hid hA
  have HB := Lib.hid (HB.out.trans hS.1)
  clear hA hS
  go_wp2_with fail
  refine (k_op HA.out (by decide) ⟨#[110, 111, 112]⟩ 0 1 (by unfold maxLen; decide) 1 ⟨0, [], [⟨2, 64, 0⟩, ⟨65, n, 0⟩], [⟨2, ⟨#[120]⟩⟩]⟩ (by unfold opR; rw [show opOk [110, 111, 112] 0 1 = none by kernel_rfl])).mono ?_
  rintro e w3 ⟨rfl, hA, hS⟩
  have HA := Lib.hid hA
  have HB := Lib.hid (HB.out.trans hS.1)
  clear hA hS
  go_wp2_with fail
  refine wp_loop_rounds 2 ?_
  rw [rounds_succ]
  go_wp2_with fail
  refine (k_nest HA.out).mono ?_
  rintro e w4 ⟨rfl, rfl⟩
  go_wp2_with fail
  refine (k_close HA.out (by decide) 0 ⟨0, [], [⟨2, 64, 0⟩, ⟨65, n, 0⟩, ⟨11, 0, 0⟩], []⟩ (by rfl)).mono ?_
  rintro e w3 ⟨rfl, hA, hS⟩
  have HA := Lib.hid hA
  have HB := Lib.hid (HB.out.trans hS.1)
  clear hA hS
  go_wp2_with fail
  rw [rounds_succ]
  go_wp2_with fail
  refine (k_nest HA.out).mono ?_
  rintro e w4 ⟨rfl, rfl⟩
  go_wp2_with fail
  refine (k_done HA.out (by decide) 0 rfl (by decide) (by decide)).mono ?_
  rintro e w8 ⟨g, cap, rfl, ho, hA, c8⟩
  have HB := Lib.hid (HB.out.trans (c8.mono HB.out.size))
  clear hA ho c8
  have t0 : decide (-2147483648 ≤ n) = true := decide_eq_true h0
  have t1 : decide (n < 2147483648) = true := decide_eq_true h1
  go_wp2_with fail
  go_ret
  exact ⟨rfl, HB.out.alloc HB.out.size _⟩
set_option maxRecDepth 100000 in
set_option maxHeartbeats 4000000 in
theorem refuses_block_out (n : Int) (w : World) (hE : OpEnv w) (hn0 : -9223372036854775808 ≤ n) (hn1 : n ≤ 9223372036854775807) (h0 : n < -2147483648 ∨ 2147483648 ≤ n) : Calls Tryd.prog 11 #[.string ⟨#[98, 108, 111, 99, 107]⟩, .int .i64 n] w fun e w' => e = .returned (.bool true) ∧ Below w.heap.size w w' := by
  have HE := Lib.hid (Env.start hE)
  have HP := Lib.hid hE
  clear hE
  go_enter Tryd.func11, Tryd.ntmps11
  go_wp2_with fail
  refine (examples17 w HP.out).mono ?_
  rintro e w0 ⟨rfl, c0⟩
  have HB := Lib.hid c0
  have HE1 := Lib.hid (HE.out.later c0)
  clear c0
  go_wp2_with fail
  refine (k_new ⟨#[]⟩ w0 noK (fun b hb => hb.elim) (by decide)).mono ?_
  rintro e w1 ⟨bb, rfl, hlo, hA, c1⟩
  have HA := Lib.hid (hA _ HE1.out)
  have HB := Lib.hid (HB.out.trans (c1.mono HB.out.size))
  clear hA c1 hlo
  go_wp2_with fail
  refine (code_any ⟨#[98, 108, 111, 99, 107]⟩ w1 HA.out.env.op 2 true (by kernel_rfl) (by kernel_rfl)).mono ?_
  rintro e w2 ⟨rfl, c2⟩
  have HB := Lib.hid (HB.out.trans (c2.mono HB.out.size))
  have HA := Lib.hid (HA.out.later c2)
  clear c2
  go_wp2_with fail
  refine (k_close HA.out (by decide) 1 ⟨0, [], [], []⟩ (by rfl)).mono ?_
  rintro e w3 ⟨rfl, hA, hS⟩
  have HA := Lib.hid hA
  have HB := Lib.hid (HB.out.trans hS.1)
  clear hA hS
  go_wp2_with fail
  refine (k_else HA.out (by decide) 1 ⟨0, [], [], []⟩ (by rfl)).mono ?_
  rintro e w3 ⟨rfl, hA, hS⟩
  have HA := Lib.hid hA
  have HB := Lib.hid (HB.out.trans hS.1)
  clear hA hS
  go_wp2_with fail
  refine (k_go HA.out (by decide) ⟨#[98, 114]⟩ ⟨#[120]⟩ (by unfold maxLen; decide) 13 ⟨0, [], [], []⟩ (by kernel_rfl)).mono ?_
  rintro e w3 ⟨rfl, hA, hS⟩
  have HA := Lib.hid hA
  have HB := Lib.hid (HB.out.trans hS.1)
  clear hA hS
  go_wp2_with fail
  refine (k_op HA.out (by decide) ⟨#[101, 110, 100]⟩ 0 0 (by unfold maxLen; decide) 1 ⟨0, [], [], []⟩ (by kernel_rfl)).mono ?_
  rintro e w3 ⟨rfl, hA, hS⟩
  have HA := Lib.hid hA
  have HB := Lib.hid (HB.out.trans hS.1)
  clear hA hS
  go_wp2_with fail
  refine (k_open HA.out (by decide) ⟨#[98, 108, 111, 99, 107]⟩ ⟨#[120]⟩ 64 (by unfold maxLen; decide) 0 ⟨0, [], [⟨2, 64, 0⟩], [⟨2, ⟨#[120]⟩⟩]⟩ (by kernel_rfl)).mono ?_
  rintro e w3 ⟨rfl, hA, hS⟩
  have HA := Lib.hid hA
  have HB := Lib.hid (HB.out.trans hS.1)
  clear hA hS
  go_wp2_with fail
  refine (k_op HA.out (by decide) ⟨#[105, 51, 50, 46, 99, 111, 110, 115, 116]⟩ n 0 (by unfold maxLen; decide) 1 ⟨0, [], [⟨2, 64, 0⟩], [⟨2, ⟨#[120]⟩⟩]⟩ (const_out _ h0)).mono ?_
  rintro e w3 ⟨rfl, hA, hS⟩
  have HA := Lib.hid hA
  have HB := Lib.hid (HB.out.trans hS.1)
  clear hA hS
  go_wp2_with fail
  refine (k_local HA.out (by decide) 64 0 1 ⟨0, [], [⟨2, 64, 0⟩], [⟨2, ⟨#[120]⟩⟩]⟩ (by rfl)).mono ?_
  rintro e w3 ⟨rfl, hA, hS⟩
  have HA := Lib.hid hA
  have HB := Lib.hid (HB.out.trans hS.1)
  clear hA hS
  go_wp2_with fail
  refine (k_op HA.out (by decide) ⟨#[110, 111, 112]⟩ 0 1 (by unfold maxLen; decide) 1 ⟨0, [], [⟨2, 64, 0⟩], [⟨2, ⟨#[120]⟩⟩]⟩ (by unfold opR; rw [show opOk [110, 111, 112] 0 1 = none by kernel_rfl])).mono ?_
  rintro e w3 ⟨rfl, hA, hS⟩
  have HA := Lib.hid hA
  have HB := Lib.hid (HB.out.trans hS.1)
  clear hA hS
  go_wp2_with fail
  refine wp_loop_rounds 2 ?_
  rw [rounds_succ]
  go_wp2_with fail
  refine (k_nest HA.out).mono ?_
  rintro e w4 ⟨rfl, rfl⟩
  go_wp2_with fail
  refine (k_close HA.out (by decide) 0 ⟨0, [], [⟨2, 64, 0⟩, ⟨11, 0, 0⟩], []⟩ (by rfl)).mono ?_
  rintro e w3 ⟨rfl, hA, hS⟩
  have HA := Lib.hid hA
  have HB := Lib.hid (HB.out.trans hS.1)
  clear hA hS
  go_wp2_with fail
  rw [rounds_succ]
  go_wp2_with fail
  refine (k_nest HA.out).mono ?_
  rintro e w4 ⟨rfl, rfl⟩
  go_wp2_with fail
  refine (k_done HA.out (by decide) 0 rfl (by decide) (by decide)).mono ?_
  rintro e w8 ⟨g, cap, rfl, ho, hA, c8⟩
  have HB := Lib.hid (HB.out.trans (c8.mono HB.out.size))
  clear hA ho c8
  rcases h0 with h0 | h0
  · have t0 : decide (-2147483648 ≤ n) = false := decide_eq_false (by omega)
    go_wp2_with fail
    go_ret
    exact ⟨rfl, HB.out.alloc HB.out.size _⟩
  · have t0 : decide (-2147483648 ≤ n) = true := decide_eq_true (by omega)
    have t1 : decide (n < 2147483648) = false := decide_eq_false (by omega)
    go_wp2_with fail
    go_ret
    exact ⟨rfl, HB.out.alloc HB.out.size _⟩
set_option maxRecDepth 100000 in
set_option maxHeartbeats 4000000 in
theorem refuses_loop_in (n : Int) (w : World) (hE : OpEnv w) (hn0 : -9223372036854775808 ≤ n) (hn1 : n ≤ 9223372036854775807) (h0 : -2147483648 ≤ n) (h1 : n < 2147483648) : Calls Tryd.prog 11 #[.string ⟨#[108, 111, 111, 112]⟩, .int .i64 n] w fun e w' => e = .returned (.bool true) ∧ Below w.heap.size w w' := by
  have HE := Lib.hid (Env.start hE)
  have HP := Lib.hid hE
  clear hE
  go_enter Tryd.func11, Tryd.ntmps11
  go_wp2_with fail
  refine (examples17 w HP.out).mono ?_
  rintro e w0 ⟨rfl, c0⟩
  have HB := Lib.hid c0
  have HE1 := Lib.hid (HE.out.later c0)
  clear c0
  go_wp2_with fail
  refine (k_new ⟨#[]⟩ w0 noK (fun b hb => hb.elim) (by decide)).mono ?_
  rintro e w1 ⟨bb, rfl, hlo, hA, c1⟩
  have HA := Lib.hid (hA _ HE1.out)
  have HB := Lib.hid (HB.out.trans (c1.mono HB.out.size))
  clear hA c1 hlo
  go_wp2_with fail
  refine (code_any ⟨#[108, 111, 111, 112]⟩ w1 HA.out.env.op 3 true (by kernel_rfl) (by kernel_rfl)).mono ?_
  rintro e w2 ⟨rfl, c2⟩
  have HB := Lib.hid (HB.out.trans (c2.mono HB.out.size))
  have HA := Lib.hid (HA.out.later c2)
  clear c2
  go_wp2_with fail
  refine (k_close HA.out (by decide) 1 ⟨0, [], [], []⟩ (by rfl)).mono ?_
  rintro e w3 ⟨rfl, hA, hS⟩
  have HA := Lib.hid hA
  have HB := Lib.hid (HB.out.trans hS.1)
  clear hA hS
  go_wp2_with fail
  refine (k_else HA.out (by decide) 1 ⟨0, [], [], []⟩ (by rfl)).mono ?_
  rintro e w3 ⟨rfl, hA, hS⟩
  have HA := Lib.hid hA
  have HB := Lib.hid (HB.out.trans hS.1)
  clear hA hS
  go_wp2_with fail
  refine (k_go HA.out (by decide) ⟨#[98, 114]⟩ ⟨#[120]⟩ (by unfold maxLen; decide) 13 ⟨0, [], [], []⟩ (by kernel_rfl)).mono ?_
  rintro e w3 ⟨rfl, hA, hS⟩
  have HA := Lib.hid hA
  have HB := Lib.hid (HB.out.trans hS.1)
  clear hA hS
  go_wp2_with fail
  refine (k_op HA.out (by decide) ⟨#[101, 110, 100]⟩ 0 0 (by unfold maxLen; decide) 1 ⟨0, [], [], []⟩ (by kernel_rfl)).mono ?_
  rintro e w3 ⟨rfl, hA, hS⟩
  have HA := Lib.hid hA
  have HB := Lib.hid (HB.out.trans hS.1)
  clear hA hS
  go_wp2_with fail
  refine (k_open HA.out (by decide) ⟨#[108, 111, 111, 112]⟩ ⟨#[120]⟩ 64 (by unfold maxLen; decide) 0 ⟨0, [], [⟨3, 64, 0⟩], [⟨3, ⟨#[120]⟩⟩]⟩ (by kernel_rfl)).mono ?_
  rintro e w3 ⟨rfl, hA, hS⟩
  have HA := Lib.hid hA
  have HB := Lib.hid (HB.out.trans hS.1)
  clear hA hS
  go_wp2_with fail
  refine (k_op HA.out (by decide) ⟨#[105, 51, 50, 46, 99, 111, 110, 115, 116]⟩ n 0 (by unfold maxLen; decide) 0 ⟨0, [], [⟨3, 64, 0⟩, ⟨65, n, 0⟩], [⟨3, ⟨#[120]⟩⟩]⟩ (const_in _ h0 h1)).mono ?_
  rintro e w3 ⟨rfl, hA, hS⟩
  have HA := Lib.hid hA
  have HB := Lib.hid (HB.out.trans hS.1)
  clear hA hS
  go_wp2_with fail
  refine (k_local HA.out (by decide) 64 0 1 ⟨0, [], [⟨3, 64, 0⟩, ⟨65, n, 0⟩], [⟨3, ⟨#[120]⟩⟩]⟩ (by rfl)).mono ?_
  rintro e w3 ⟨rfl, hA, hS⟩
  have HA := Lib.hid hA
  have HB := Lib.hid (HB.out.trans hS.1)
  clear hA hS
  go_wp2_with fail
  refine (k_op HA.out (by decide) ⟨#[110, 111, 112]⟩ 0 1 (by unfold maxLen; decide) 1 ⟨0, [], [⟨3, 64, 0⟩, ⟨65, n, 0⟩], [⟨3, ⟨#[120]⟩⟩]⟩ (by unfold opR; rw [show opOk [110, 111, 112] 0 1 = none by kernel_rfl])).mono ?_
  rintro e w3 ⟨rfl, hA, hS⟩
  have HA := Lib.hid hA
  have HB := Lib.hid (HB.out.trans hS.1)
  clear hA hS
  go_wp2_with fail
  refine wp_loop_rounds 2 ?_
  rw [rounds_succ]
  go_wp2_with fail
  refine (k_nest HA.out).mono ?_
  rintro e w4 ⟨rfl, rfl⟩
  go_wp2_with fail
  refine (k_close HA.out (by decide) 0 ⟨0, [], [⟨3, 64, 0⟩, ⟨65, n, 0⟩, ⟨11, 0, 0⟩], []⟩ (by rfl)).mono ?_
  rintro e w3 ⟨rfl, hA, hS⟩
  have HA := Lib.hid hA
  have HB := Lib.hid (HB.out.trans hS.1)
  clear hA hS
  go_wp2_with fail
  rw [rounds_succ]
  go_wp2_with fail
  refine (k_nest HA.out).mono ?_
  rintro e w4 ⟨rfl, rfl⟩
  go_wp2_with fail
  refine (k_done HA.out (by decide) 0 rfl (by decide) (by decide)).mono ?_
  rintro e w8 ⟨g, cap, rfl, ho, hA, c8⟩
  have HB := Lib.hid (HB.out.trans (c8.mono HB.out.size))
  clear hA ho c8
  have t0 : decide (-2147483648 ≤ n) = true := decide_eq_true h0
  have t1 : decide (n < 2147483648) = true := decide_eq_true h1
  go_wp2_with fail
  go_ret
  exact ⟨rfl, HB.out.alloc HB.out.size _⟩
set_option maxRecDepth 100000 in
set_option maxHeartbeats 4000000 in
theorem refuses_loop_out (n : Int) (w : World) (hE : OpEnv w) (hn0 : -9223372036854775808 ≤ n) (hn1 : n ≤ 9223372036854775807) (h0 : n < -2147483648 ∨ 2147483648 ≤ n) : Calls Tryd.prog 11 #[.string ⟨#[108, 111, 111, 112]⟩, .int .i64 n] w fun e w' => e = .returned (.bool true) ∧ Below w.heap.size w w' := by
  have HE := Lib.hid (Env.start hE)
  have HP := Lib.hid hE
  clear hE
  go_enter Tryd.func11, Tryd.ntmps11
  go_wp2_with fail
  refine (examples17 w HP.out).mono ?_
  rintro e w0 ⟨rfl, c0⟩
  have HB := Lib.hid c0
  have HE1 := Lib.hid (HE.out.later c0)
  clear c0
  go_wp2_with fail
  refine (k_new ⟨#[]⟩ w0 noK (fun b hb => hb.elim) (by decide)).mono ?_
  rintro e w1 ⟨bb, rfl, hlo, hA, c1⟩
  have HA := Lib.hid (hA _ HE1.out)
  have HB := Lib.hid (HB.out.trans (c1.mono HB.out.size))
  clear hA c1 hlo
  go_wp2_with fail
  refine (code_any ⟨#[108, 111, 111, 112]⟩ w1 HA.out.env.op 3 true (by kernel_rfl) (by kernel_rfl)).mono ?_
  rintro e w2 ⟨rfl, c2⟩
  have HB := Lib.hid (HB.out.trans (c2.mono HB.out.size))
  have HA := Lib.hid (HA.out.later c2)
  clear c2
  go_wp2_with fail
  refine (k_close HA.out (by decide) 1 ⟨0, [], [], []⟩ (by rfl)).mono ?_
  rintro e w3 ⟨rfl, hA, hS⟩
  have HA := Lib.hid hA
  have HB := Lib.hid (HB.out.trans hS.1)
  clear hA hS
  go_wp2_with fail
  refine (k_else HA.out (by decide) 1 ⟨0, [], [], []⟩ (by rfl)).mono ?_
  rintro e w3 ⟨rfl, hA, hS⟩
  have HA := Lib.hid hA
  have HB := Lib.hid (HB.out.trans hS.1)
  clear hA hS
  go_wp2_with fail
  refine (k_go HA.out (by decide) ⟨#[98, 114]⟩ ⟨#[120]⟩ (by unfold maxLen; decide) 13 ⟨0, [], [], []⟩ (by kernel_rfl)).mono ?_
  rintro e w3 ⟨rfl, hA, hS⟩
  have HA := Lib.hid hA
  have HB := Lib.hid (HB.out.trans hS.1)
  clear hA hS
  go_wp2_with fail
  refine (k_op HA.out (by decide) ⟨#[101, 110, 100]⟩ 0 0 (by unfold maxLen; decide) 1 ⟨0, [], [], []⟩ (by kernel_rfl)).mono ?_
  rintro e w3 ⟨rfl, hA, hS⟩
  have HA := Lib.hid hA
  have HB := Lib.hid (HB.out.trans hS.1)
  clear hA hS
  go_wp2_with fail
  refine (k_open HA.out (by decide) ⟨#[108, 111, 111, 112]⟩ ⟨#[120]⟩ 64 (by unfold maxLen; decide) 0 ⟨0, [], [⟨3, 64, 0⟩], [⟨3, ⟨#[120]⟩⟩]⟩ (by kernel_rfl)).mono ?_
  rintro e w3 ⟨rfl, hA, hS⟩
  have HA := Lib.hid hA
  have HB := Lib.hid (HB.out.trans hS.1)
  clear hA hS
  go_wp2_with fail
  refine (k_op HA.out (by decide) ⟨#[105, 51, 50, 46, 99, 111, 110, 115, 116]⟩ n 0 (by unfold maxLen; decide) 1 ⟨0, [], [⟨3, 64, 0⟩], [⟨3, ⟨#[120]⟩⟩]⟩ (const_out _ h0)).mono ?_
  rintro e w3 ⟨rfl, hA, hS⟩
  have HA := Lib.hid hA
  have HB := Lib.hid (HB.out.trans hS.1)
  clear hA hS
  go_wp2_with fail
  refine (k_local HA.out (by decide) 64 0 1 ⟨0, [], [⟨3, 64, 0⟩], [⟨3, ⟨#[120]⟩⟩]⟩ (by rfl)).mono ?_
  rintro e w3 ⟨rfl, hA, hS⟩
  have HA := Lib.hid hA
  have HB := Lib.hid (HB.out.trans hS.1)
  clear hA hS
  go_wp2_with fail
  refine (k_op HA.out (by decide) ⟨#[110, 111, 112]⟩ 0 1 (by unfold maxLen; decide) 1 ⟨0, [], [⟨3, 64, 0⟩], [⟨3, ⟨#[120]⟩⟩]⟩ (by unfold opR; rw [show opOk [110, 111, 112] 0 1 = none by kernel_rfl])).mono ?_
  rintro e w3 ⟨rfl, hA, hS⟩
  have HA := Lib.hid hA
  have HB := Lib.hid (HB.out.trans hS.1)
  clear hA hS
  go_wp2_with fail
  refine wp_loop_rounds 2 ?_
  rw [rounds_succ]
  go_wp2_with fail
  refine (k_nest HA.out).mono ?_
  rintro e w4 ⟨rfl, rfl⟩
  go_wp2_with fail
  refine (k_close HA.out (by decide) 0 ⟨0, [], [⟨3, 64, 0⟩, ⟨11, 0, 0⟩], []⟩ (by rfl)).mono ?_
  rintro e w3 ⟨rfl, hA, hS⟩
  have HA := Lib.hid hA
  have HB := Lib.hid (HB.out.trans hS.1)
  clear hA hS
  go_wp2_with fail
  rw [rounds_succ]
  go_wp2_with fail
  refine (k_nest HA.out).mono ?_
  rintro e w4 ⟨rfl, rfl⟩
  go_wp2_with fail
  refine (k_done HA.out (by decide) 0 rfl (by decide) (by decide)).mono ?_
  rintro e w8 ⟨g, cap, rfl, ho, hA, c8⟩
  have HB := Lib.hid (HB.out.trans (c8.mono HB.out.size))
  clear hA ho c8
  rcases h0 with h0 | h0
  · have t0 : decide (-2147483648 ≤ n) = false := decide_eq_false (by omega)
    go_wp2_with fail
    go_ret
    exact ⟨rfl, HB.out.alloc HB.out.size _⟩
  · have t0 : decide (-2147483648 ≤ n) = true := decide_eq_true (by omega)
    have t1 : decide (n < 2147483648) = false := decide_eq_false (by omega)
    go_wp2_with fail
    go_ret
    exact ⟨rfl, HB.out.alloc HB.out.size _⟩
set_option maxRecDepth 100000 in
set_option maxHeartbeats 4000000 in
theorem refuses_if_in (n : Int) (w : World) (hE : OpEnv w) (hn0 : -9223372036854775808 ≤ n) (hn1 : n ≤ 9223372036854775807) (h0 : -2147483648 ≤ n) (h1 : n < 2147483648) : Calls Tryd.prog 11 #[.string ⟨#[105, 102]⟩, .int .i64 n] w fun e w' => e = .returned (.bool true) ∧ Below w.heap.size w w' := by
  have HE := Lib.hid (Env.start hE)
  have HP := Lib.hid hE
  clear hE
  go_enter Tryd.func11, Tryd.ntmps11
  go_wp2_with fail
  refine (examples17 w HP.out).mono ?_
  rintro e w0 ⟨rfl, c0⟩
  have HB := Lib.hid c0
  have HE1 := Lib.hid (HE.out.later c0)
  clear c0
  go_wp2_with fail
  refine (k_new ⟨#[]⟩ w0 noK (fun b hb => hb.elim) (by decide)).mono ?_
  rintro e w1 ⟨bb, rfl, hlo, hA, c1⟩
  have HA := Lib.hid (hA _ HE1.out)
  have HB := Lib.hid (HB.out.trans (c1.mono HB.out.size))
  clear hA c1 hlo
  go_wp2_with fail
  refine (code_any ⟨#[105, 102]⟩ w1 HA.out.env.op 4 true (by kernel_rfl) (by kernel_rfl)).mono ?_
  rintro e w2 ⟨rfl, c2⟩
  have HB := Lib.hid (HB.out.trans (c2.mono HB.out.size))
  have HA := Lib.hid (HA.out.later c2)
  clear c2
  go_wp2_with fail
  refine (k_close HA.out (by decide) 1 ⟨0, [], [], []⟩ (by rfl)).mono ?_
  rintro e w3 ⟨rfl, hA, hS⟩
  have HA := Lib.hid hA
  have HB := Lib.hid (HB.out.trans hS.1)
  clear hA hS
  go_wp2_with fail
  refine (k_else HA.out (by decide) 1 ⟨0, [], [], []⟩ (by rfl)).mono ?_
  rintro e w3 ⟨rfl, hA, hS⟩
  have HA := Lib.hid hA
  have HB := Lib.hid (HB.out.trans hS.1)
  clear hA hS
  go_wp2_with fail
  refine (k_go HA.out (by decide) ⟨#[98, 114]⟩ ⟨#[120]⟩ (by unfold maxLen; decide) 13 ⟨0, [], [], []⟩ (by kernel_rfl)).mono ?_
  rintro e w3 ⟨rfl, hA, hS⟩
  have HA := Lib.hid hA
  have HB := Lib.hid (HB.out.trans hS.1)
  clear hA hS
  go_wp2_with fail
  refine (k_op HA.out (by decide) ⟨#[101, 110, 100]⟩ 0 0 (by unfold maxLen; decide) 1 ⟨0, [], [], []⟩ (by kernel_rfl)).mono ?_
  rintro e w3 ⟨rfl, hA, hS⟩
  have HA := Lib.hid hA
  have HB := Lib.hid (HB.out.trans hS.1)
  clear hA hS
  go_wp2_with fail
  refine (k_open HA.out (by decide) ⟨#[105, 102]⟩ ⟨#[120]⟩ 64 (by unfold maxLen; decide) 0 ⟨0, [], [⟨4, 64, 0⟩], [⟨4, ⟨#[120]⟩⟩]⟩ (by kernel_rfl)).mono ?_
  rintro e w3 ⟨rfl, hA, hS⟩
  have HA := Lib.hid hA
  have HB := Lib.hid (HB.out.trans hS.1)
  clear hA hS
  go_wp2_with fail
  refine (k_op HA.out (by decide) ⟨#[105, 51, 50, 46, 99, 111, 110, 115, 116]⟩ n 0 (by unfold maxLen; decide) 0 ⟨0, [], [⟨4, 64, 0⟩, ⟨65, n, 0⟩], [⟨4, ⟨#[120]⟩⟩]⟩ (const_in _ h0 h1)).mono ?_
  rintro e w3 ⟨rfl, hA, hS⟩
  have HA := Lib.hid hA
  have HB := Lib.hid (HB.out.trans hS.1)
  clear hA hS
  go_wp2_with fail
  refine (k_local HA.out (by decide) 64 0 1 ⟨0, [], [⟨4, 64, 0⟩, ⟨65, n, 0⟩], [⟨4, ⟨#[120]⟩⟩]⟩ (by rfl)).mono ?_
  rintro e w3 ⟨rfl, hA, hS⟩
  have HA := Lib.hid hA
  have HB := Lib.hid (HB.out.trans hS.1)
  clear hA hS
  go_wp2_with fail
  refine (k_op HA.out (by decide) ⟨#[110, 111, 112]⟩ 0 1 (by unfold maxLen; decide) 1 ⟨0, [], [⟨4, 64, 0⟩, ⟨65, n, 0⟩], [⟨4, ⟨#[120]⟩⟩]⟩ (by unfold opR; rw [show opOk [110, 111, 112] 0 1 = none by kernel_rfl])).mono ?_
  rintro e w3 ⟨rfl, hA, hS⟩
  have HA := Lib.hid hA
  have HB := Lib.hid (HB.out.trans hS.1)
  clear hA hS
  go_wp2_with fail
  refine wp_loop_rounds 2 ?_
  rw [rounds_succ]
  go_wp2_with fail
  refine (k_nest HA.out).mono ?_
  rintro e w4 ⟨rfl, rfl⟩
  go_wp2_with fail
  refine (k_close HA.out (by decide) 0 ⟨0, [], [⟨4, 64, 0⟩, ⟨65, n, 0⟩, ⟨11, 0, 0⟩], []⟩ (by rfl)).mono ?_
  rintro e w3 ⟨rfl, hA, hS⟩
  have HA := Lib.hid hA
  have HB := Lib.hid (HB.out.trans hS.1)
  clear hA hS
  go_wp2_with fail
  rw [rounds_succ]
  go_wp2_with fail
  refine (k_nest HA.out).mono ?_
  rintro e w4 ⟨rfl, rfl⟩
  go_wp2_with fail
  refine (k_done HA.out (by decide) 0 rfl (by decide) (by decide)).mono ?_
  rintro e w8 ⟨g, cap, rfl, ho, hA, c8⟩
  have HB := Lib.hid (HB.out.trans (c8.mono HB.out.size))
  clear hA ho c8
  have t0 : decide (-2147483648 ≤ n) = true := decide_eq_true h0
  have t1 : decide (n < 2147483648) = true := decide_eq_true h1
  go_wp2_with fail
  go_ret
  exact ⟨rfl, HB.out.alloc HB.out.size _⟩
set_option maxRecDepth 100000 in
set_option maxHeartbeats 4000000 in
theorem refuses_if_out (n : Int) (w : World) (hE : OpEnv w) (hn0 : -9223372036854775808 ≤ n) (hn1 : n ≤ 9223372036854775807) (h0 : n < -2147483648 ∨ 2147483648 ≤ n) : Calls Tryd.prog 11 #[.string ⟨#[105, 102]⟩, .int .i64 n] w fun e w' => e = .returned (.bool true) ∧ Below w.heap.size w w' := by
  have HE := Lib.hid (Env.start hE)
  have HP := Lib.hid hE
  clear hE
  go_enter Tryd.func11, Tryd.ntmps11
  go_wp2_with fail
  refine (examples17 w HP.out).mono ?_
  rintro e w0 ⟨rfl, c0⟩
  have HB := Lib.hid c0
  have HE1 := Lib.hid (HE.out.later c0)
  clear c0
  go_wp2_with fail
  refine (k_new ⟨#[]⟩ w0 noK (fun b hb => hb.elim) (by decide)).mono ?_
  rintro e w1 ⟨bb, rfl, hlo, hA, c1⟩
  have HA := Lib.hid (hA _ HE1.out)
  have HB := Lib.hid (HB.out.trans (c1.mono HB.out.size))
  clear hA c1 hlo
  go_wp2_with fail
  refine (code_any ⟨#[105, 102]⟩ w1 HA.out.env.op 4 true (by kernel_rfl) (by kernel_rfl)).mono ?_
  rintro e w2 ⟨rfl, c2⟩
  have HB := Lib.hid (HB.out.trans (c2.mono HB.out.size))
  have HA := Lib.hid (HA.out.later c2)
  clear c2
  go_wp2_with fail
  refine (k_close HA.out (by decide) 1 ⟨0, [], [], []⟩ (by rfl)).mono ?_
  rintro e w3 ⟨rfl, hA, hS⟩
  have HA := Lib.hid hA
  have HB := Lib.hid (HB.out.trans hS.1)
  clear hA hS
  go_wp2_with fail
  refine (k_else HA.out (by decide) 1 ⟨0, [], [], []⟩ (by rfl)).mono ?_
  rintro e w3 ⟨rfl, hA, hS⟩
  have HA := Lib.hid hA
  have HB := Lib.hid (HB.out.trans hS.1)
  clear hA hS
  go_wp2_with fail
  refine (k_go HA.out (by decide) ⟨#[98, 114]⟩ ⟨#[120]⟩ (by unfold maxLen; decide) 13 ⟨0, [], [], []⟩ (by kernel_rfl)).mono ?_
  rintro e w3 ⟨rfl, hA, hS⟩
  have HA := Lib.hid hA
  have HB := Lib.hid (HB.out.trans hS.1)
  clear hA hS
  go_wp2_with fail
  refine (k_op HA.out (by decide) ⟨#[101, 110, 100]⟩ 0 0 (by unfold maxLen; decide) 1 ⟨0, [], [], []⟩ (by kernel_rfl)).mono ?_
  rintro e w3 ⟨rfl, hA, hS⟩
  have HA := Lib.hid hA
  have HB := Lib.hid (HB.out.trans hS.1)
  clear hA hS
  go_wp2_with fail
  refine (k_open HA.out (by decide) ⟨#[105, 102]⟩ ⟨#[120]⟩ 64 (by unfold maxLen; decide) 0 ⟨0, [], [⟨4, 64, 0⟩], [⟨4, ⟨#[120]⟩⟩]⟩ (by kernel_rfl)).mono ?_
  rintro e w3 ⟨rfl, hA, hS⟩
  have HA := Lib.hid hA
  have HB := Lib.hid (HB.out.trans hS.1)
  clear hA hS
  go_wp2_with fail
  refine (k_op HA.out (by decide) ⟨#[105, 51, 50, 46, 99, 111, 110, 115, 116]⟩ n 0 (by unfold maxLen; decide) 1 ⟨0, [], [⟨4, 64, 0⟩], [⟨4, ⟨#[120]⟩⟩]⟩ (const_out _ h0)).mono ?_
  rintro e w3 ⟨rfl, hA, hS⟩
  have HA := Lib.hid hA
  have HB := Lib.hid (HB.out.trans hS.1)
  clear hA hS
  go_wp2_with fail
  refine (k_local HA.out (by decide) 64 0 1 ⟨0, [], [⟨4, 64, 0⟩], [⟨4, ⟨#[120]⟩⟩]⟩ (by rfl)).mono ?_
  rintro e w3 ⟨rfl, hA, hS⟩
  have HA := Lib.hid hA
  have HB := Lib.hid (HB.out.trans hS.1)
  clear hA hS
  go_wp2_with fail
  refine (k_op HA.out (by decide) ⟨#[110, 111, 112]⟩ 0 1 (by unfold maxLen; decide) 1 ⟨0, [], [⟨4, 64, 0⟩], [⟨4, ⟨#[120]⟩⟩]⟩ (by unfold opR; rw [show opOk [110, 111, 112] 0 1 = none by kernel_rfl])).mono ?_
  rintro e w3 ⟨rfl, hA, hS⟩
  have HA := Lib.hid hA
  have HB := Lib.hid (HB.out.trans hS.1)
  clear hA hS
  go_wp2_with fail
  refine wp_loop_rounds 2 ?_
  rw [rounds_succ]
  go_wp2_with fail
  refine (k_nest HA.out).mono ?_
  rintro e w4 ⟨rfl, rfl⟩
  go_wp2_with fail
  refine (k_close HA.out (by decide) 0 ⟨0, [], [⟨4, 64, 0⟩, ⟨11, 0, 0⟩], []⟩ (by rfl)).mono ?_
  rintro e w3 ⟨rfl, hA, hS⟩
  have HA := Lib.hid hA
  have HB := Lib.hid (HB.out.trans hS.1)
  clear hA hS
  go_wp2_with fail
  rw [rounds_succ]
  go_wp2_with fail
  refine (k_nest HA.out).mono ?_
  rintro e w4 ⟨rfl, rfl⟩
  go_wp2_with fail
  refine (k_done HA.out (by decide) 0 rfl (by decide) (by decide)).mono ?_
  rintro e w8 ⟨g, cap, rfl, ho, hA, c8⟩
  have HB := Lib.hid (HB.out.trans (c8.mono HB.out.size))
  clear hA ho c8
  rcases h0 with h0 | h0
  · have t0 : decide (-2147483648 ≤ n) = false := decide_eq_false (by omega)
    go_wp2_with fail
    go_ret
    exact ⟨rfl, HB.out.alloc HB.out.size _⟩
  · have t0 : decide (-2147483648 ≤ n) = true := decide_eq_true (by omega)
    have t1 : decide (n < 2147483648) = false := decide_eq_false (by omega)
    go_wp2_with fail
    go_ret
    exact ⟨rfl, HB.out.alloc HB.out.size _⟩
theorem refuses_walk (nm : ByteArray) (n : Int) (w : World) (hE : OpEnv w) (hs : nm.size ≤ maxLen) (hn : (Lit.int .i64 n).wf = true) : Calls Tryd.prog 11 #[.string nm, .int .i64 n] w fun e w' => e = .returned (.bool true) ∧ Below w.heap.size w w' := by
  have hb := Go.bounds_i64 hn
  have hn0 := hb.1
  have hn1 := hb.2
  have hd : ∀ {l : List UInt8}, nm.data.toList = l → nm = ⟨l.toArray⟩ := fun {l} h => by cases nm; simp at h; rw [← h]
  by_cases hr : -2147483648 ≤ n ∧ n < 2147483648
  · by_cases g2 : nm.data.toList = [98, 108, 111, 99, 107]
    · rw [hd g2]; exact refuses_block_in n w hE hn0 hn1 hr.1 hr.2
    · by_cases g3 : nm.data.toList = [108, 111, 111, 112]
      · rw [hd g3]; exact refuses_loop_in n w hE hn0 hn1 hr.1 hr.2
      · by_cases g4 : nm.data.toList = [105, 102]
        · rw [hd g4]; exact refuses_if_in n w hE hn0 hn1 hr.1 hr.2
        · exact refuses_other_in nm hs g2 g3 g4 n w hE hn0 hn1 hr.1 hr.2
  · have hr2 : n < -2147483648 ∨ 2147483648 ≤ n := by omega
    by_cases g2 : nm.data.toList = [98, 108, 111, 99, 107]
    · rw [hd g2]; exact refuses_block_out n w hE hn0 hn1 hr2
    · by_cases g3 : nm.data.toList = [108, 111, 111, 112]
      · rw [hd g3]; exact refuses_loop_out n w hE hn0 hn1 hr2
      · by_cases g4 : nm.data.toList = [105, 102]
        · rw [hd g4]; exact refuses_if_out n w hE hn0 hn1 hr2
        · exact refuses_other_out nm hs g2 g3 g4 n w hE hn0 hn1 hr2
end Go.Proofs.YtlbgbpgjccbbjaaDoor.Asm
