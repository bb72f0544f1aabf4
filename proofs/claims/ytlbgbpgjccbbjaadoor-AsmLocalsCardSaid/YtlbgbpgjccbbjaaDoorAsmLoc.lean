/-
  What AsmLocals of chapter 17 answers. No condition beyond what each theorem names.
-/
import Derived.Test.YtlbgbpgjccbbjaaDoorAsmEx
namespace Go.Proofs.YtlbgbpgjccbbjaaDoor.Asm
open Go.RowKit Go.Maps Go.Proofs.YtlbgbpgjccbbjaaDoor.Op
set_option linter.unusedVariables false
def RelP (P : Nat) (v i : Value) : Prop := ∃ (k : Nat) (S : ByteArray), k ≤ P ∧ i = .int .i64 k ∧ v = .string S ∧ S.data.toList = List.replicate k 127
theorem newOk_rep (k : Nat) : newOk (List.replicate k 127) = decide (k ≤ 64) := by
  unfold newOk
  simp
theorem app_rep {S : ByteArray} {k : Nat} (h : S.data.toList = List.replicate k 127) : (S ++ ⟨#[127]⟩ : ByteArray).data.toList = List.replicate (k + 1) 127 := by
  simp [ByteArray.data_append, h, List.replicate_succ']
theorem size_rep {S : ByteArray} {k : Nat} (h : S.data.toList = List.replicate k 127) : S.size = k := by
  have := congrArg List.length h
  simpa using this
def locI (k : Nat) (kd : UInt8) : List UInt8 := List.replicate (min k 4000) kd
def RelQ (w : World) (bb P N : Nat) (kd : UInt8) (i : Value) (wr : World) : Prop := ∃ k : Nat, k ≤ N ∧ i = .int .i64 k ∧ AtK wr w.heap.size bb k ⟨P, locI k kd, [], []⟩ noK ∧ Below w.heap.size w wr
theorem local_few (P k : Nat) (kd : UInt8) (hk : (kd == 127 || kd == 126) = true) (h : k < 4000) : localR ⟨P, locI k kd, [], []⟩ kd = (((P + k : Nat) : Int), 0, ⟨P, locI (k + 1) kd, [], []⟩) := by
  unfold localR
  rw [hk]
  have h1 : (locI k kd).length = k := by unfold locI; rw [List.length_replicate]; omega
  have h2 : locI k kd ++ [kd] = locI (k + 1) kd := by
    unfold locI
    rw [show min (k + 1) 4000 = k + 1 by omega, show min k 4000 = k by omega]
    exact List.replicate_succ'.symm
  simp only [h1]
  rw [if_neg (by decide), if_neg (by omega), h2]
theorem local_many (P k : Nat) (kd : UInt8) (hk : (kd == 127 || kd == 126) = true) (h : 4000 ≤ k) : localR ⟨P, locI k kd, [], []⟩ kd = (0, 5, ⟨P, locI (k + 1) kd, [], []⟩) := by
  unfold localR
  rw [hk]
  have h1 : (locI k kd).length = 4000 := by unfold locI; rw [List.length_replicate]; omega
  have h2 : locI k kd = locI (k + 1) kd := by
    unfold locI
    rw [show min (k + 1) 4000 = 4000 by omega, show min k 4000 = 4000 by omega]
  simp only [h1]
  rw [if_neg (by decide), if_pos trivial, h2]
theorem make_0 (W : World) : (Instr.makeSlice 46 (.int .i64 0) (.int .i64 0)).run Tryd.prog W = .ok (.slice (some ⟨W.heap.size, 0, none⟩) 0 0) (W.alloc (.cells #[] 5)) := by
  obtain ⟨i0, hi, hz0, hz1, hz2⟩ := info_of info_u8
  have := run_make (P := Tryd.prog) W 46 5 i0 (.int .u8 0) Tryd.underlying46 hi hz0 .i64 .i64 0 0 (by omega) (by omega) (by omega) (by omega)
  have hm0 : madeCells (Value.int .u8 0).cells (Int.toNat 0 * 1) = #[] := by simp [madeCells]
  rw [this, hz1, hm0]
  rfl
theorem conv_0 (W : World) : (convert 46 9 (.slice (some ⟨W.heap.size, 0, none⟩) 0 0)).run Tryd.prog (W.alloc (.cells #[] 5)) = .ok (.string ⟨#[]⟩) (W.alloc (.cells #[] 5)) :=
  conv_loc (l := []) (World.ownsRow_made (base := 0) W #[] 0 (Nat.zero_le _) (by unfold maxLen; decide) rfl)
theorem app2_rep {S : ByteArray} {k : Nat} (h : S.data.toList = List.replicate k 127) : (S ++ ⟨#[127]⟩ ++ ⟨#[]⟩ ++ S : ByteArray).data.toList = List.replicate (2 * k + 1) 127 := by
  simp only [ByteArray.data_append, Array.toList_append, h]
  rw [show ([127] : List UInt8) = List.replicate 1 127 from rfl, List.append_nil, List.replicate_append_replicate, List.replicate_append_replicate]
  congr 1
  omega
def RelM (M : Nat) (i : Value) : Prop := ∃ k : Nat, k ≤ M ∧ i = .int .i64 k
def MadeAny (w : World) (P : Nat) (e : Ending) (w' : World) : Prop := ∃ (p : Option Addr) (F : Int), e = .returned (.tuple #[.pointer p, .int .i64 F]) ∧ F = (if 2 * P + 1 ≤ 64 then 0 else 1) ∧ Below w.heap.size w w'
theorem new_2 {T : ByteArray} {P : Nat} (h : T.data.toList = List.replicate (2 * P + 1) 127) (hP : P ≤ 64) (w : World) : Calls Tryd.prog 23 #[.string T] w (MadeAny w P) := by
  by_cases hl : 2 * P + 1 ≤ 64
  · refine (new_ok T w (by rw [h, newOk_rep]; exact decide_eq_true hl)).mono ?_
    rintro e w' ⟨bb, x, rfl, _, hb⟩
    exact ⟨_, _, rfl, by rw [if_pos hl], hb⟩
  · refine (new_bad T w (by rw [size_rep h]; unfold maxLen; omega) (by rw [h, newOk_rep]; exact decide_eq_false hl)).mono ?_
    rintro e w' ⟨rfl, hb⟩
    exact ⟨_, _, rfl, by rw [if_neg hl], hb⟩
set_option maxRecDepth 100000 in
set_option maxHeartbeats 8000000 in
theorem locals_false (pa many : Nat) (hp : pa < 256) (hm : many < 65536) (w : World) (hE : OpEnv w) : Calls Tryd.prog 8 #[.int .u8 pa, .int .u16 many, .bool false] w fun e w' => e = .returned (.bool true) ∧ Below w.heap.size w w' := by
  have HE := Lib.hid (Env.start hE)
  have HP := Lib.hid hE
  clear hE
  obtain ⟨P, hP⟩ : ∃ P, pa % 65 = P := ⟨_, rfl⟩
  obtain ⟨N, hN⟩ : ∃ N, many % 5001 = N := ⟨_, rfl⟩
  have hPi : ((pa : Int) % 65) = (P : Int) := by omega
  have hNi : ((many : Int) % 5001) = (N : Int) := by omega
  have hP64 : P ≤ 64 := by omega
  have hN5 : N ≤ 5000 := by omega
  clear hP hN
  go_enter Tryd.func8, Tryd.ntmps8
  go_wp2_with fail
  refine (examples17 w HP.out).mono ?_
  rintro e w0 ⟨rfl, c0⟩
  have HB := Lib.hid c0
  have HE1 := Lib.hid (HE.out.later c0)
  clear c0
  go_wp2_with fail
  go_loop [8, 9] (fun v i => RelP P v i) (fun _ i => P - (intOf i).toNat)
  case atStart => exact ⟨0, ⟨#[]⟩, Nat.zero_le _, rfl, rfl, rfl⟩
  case round =>
    obtain ⟨k, S, hk, rfl, rfl, hS⟩ := hrel
    have HS := Lib.hid hS
    clear hS
    by_cases hlt : k < P
    · have hd : decide (k < P) = true := decide_eq_true hlt
      have hsz := size_rep HS.out
      go_wp2_with fail
      go_round
      case rel => exact ⟨k + 1, S ++ ⟨#[127]⟩, by omega, by go_num, rfl, app_rep HS.out⟩
      case measure => simp [intOf]; omega
    · obtain rfl : P = k := by omega
      have hd : decide (P < P) = false := by simp
      have hsz := size_rep HS.out
      go_wp2_with fail
      refine (k_new S w0 noK (fun b hb => hb.elim) (by rw [HS.out, newOk_rep]; exact decide_eq_true hP64)).mono ?_
      rintro e w1 ⟨bb, rfl, hlo, hA, c1⟩
      have HA := Lib.hid (hA _ HE1.out)
      have HB := Lib.hid (HB.out.trans (c1.mono HB.out.size))
      clear hA c1 hlo
      have hmk := make_0 w1
      have hcv := conv_0 w1
      go_wp2_with fail
      refine (new_2 (app2_rep HS.out) hP64 _).mono ?_
      rintro e w2 ⟨pp, F, rfl, hF, c2⟩
      have HF := Lib.hid hF
      have HA := Lib.hid (((HA.out.alloc _).sub (K' := noK) (fun b hb => hb.elim)).later c2)
      have HB := Lib.hid ((HB.out.alloc HB.out.size _).trans (c2.mono (by have := HB.out.size; simp; omega)))
      clear hmk hcv c2 hF
      rw [hsz] at HA
      go_wp2_with fail
      go_loopw [16] (fun i wr => RelQ w bb P N 127 i wr) (fun i _ => N - (intOf i).toNat)
      case atStart => exact ⟨0, Nat.zero_le _, rfl, HA.out, HB.out⟩
      case round =>
        obtain ⟨k, hk, rfl, hA, hB⟩ := hrel
        have HA := Lib.hid hA
        have HB := Lib.hid hB
        clear hA hB
        by_cases hlt : k < N
        · have hd : decide (k < N) = true := decide_eq_true hlt
          go_wp2_with fail
          by_cases h4 : k < 4000
          · have hst := local_few P k 127 (by decide) h4
            have h4a : decide (k < 4000) = true := decide_eq_true h4
            have h4b : decide (4000 ≤ k) = false := decide_eq_false (by omega)
            refine (k_local HA.out (by omega) 127 _ _ _ hst).mono ?_
            rintro e w3 ⟨rfl, hA, hS⟩
            have HA3 := Lib.hid hA
            have HB3 := Lib.hid (HB.out.trans hS.1)
            clear hA hS hst
            go_wp2_with fail
            go_roundw
            case rel => exact ⟨k + 1, by omega, by go_num, HA3.out, HB3.out⟩
            case measure => simp [intOf]; omega
          · have hst := local_many P k 127 (by decide) (by omega)
            have h4a : decide (k < 4000) = false := decide_eq_false h4
            have h4b : decide (4000 ≤ k) = true := decide_eq_true (by omega)
            refine (k_local HA.out (by omega) 127 _ _ _ hst).mono ?_
            rintro e w3 ⟨rfl, hA, hS⟩
            have HA3 := Lib.hid hA
            have HB3 := Lib.hid (HB.out.trans hS.1)
            clear hA hS hst
            go_wp2_with fail
            go_roundw
            case rel => exact ⟨k + 1, by omega, by go_num, HA3.out, HB3.out⟩
            case measure => simp [intOf]; omega
        · obtain rfl : N = k := by omega
          have hd : decide (N < N) = false := by simp
          go_wp2_with fail
          refine (k_done HA.out (by omega) 0 rfl (by decide) (by decide)).mono ?_
          rintro e w8 ⟨g, cap, rfl, ho, hA, c8⟩
          have HB := Lib.hid ((HB.out.trans (c8.mono HB.out.size)))
          clear hA ho c8
          obtain ⟨LS, hLS⟩ : ∃ LS : ByteArray, (⟨(locI N 127).toArray⟩ : ByteArray) = LS := ⟨_, rfl⟩
          obtain ⟨M, hM⟩ : ∃ M, min N 4000 = M := ⟨_, rfl⟩
          have hls : LS.size = M := by rw [← hLS, ← hM]; show (locI N 127).toArray.size = _; simp [locI]
          have hlb : ∀ j, j < M → LS.data.toList[j]? = some 127 := fun j hj => by rw [← hLS]; unfold locI; rw [hM]; simp [hj]
          have hmn : min (N : Int) 4000 = (M : Int) := by rw [← hM]; omega
          have HLB := Lib.hid hlb
          rw [hLS]
          clear hLS hlb
          go_wp2_with fail
          go_loop [21] (fun i => RelM M i) (fun i => M - (intOf i).toNat)
          case atStart => exact ⟨0, Nat.zero_le _, rfl⟩
          case round =>
            obtain ⟨k, hk, rfl⟩ := hrel
            by_cases hlt : k < M
            · have hd : decide (k < M) = true := decide_eq_true hlt
              have hx : LS[k]'(by rw [hls]; exact hlt) = (127 : UInt8) := by
                obtain ⟨_, h⟩ := List.getElem?_eq_some_iff.1 (HLB.out k hlt)
                exact h
              go_wp2_with fail
              go_round
              case rel => exact ⟨k + 1, by omega, by go_num⟩
              case measure => simp [intOf]; omega
            · obtain rfl : M = k := by omega
              have hd : decide (M < M) = false := by simp
              by_cases h64 : 2 * P + 1 ≤ 64
              · have hF0 : F = 0 := by rw [HF.out, if_pos h64]
                subst hF0
                have h6 : decide (2 * (P : Int) + 1 ≤ 64) = true := decide_eq_true (by omega)
                go_wp2_with fail
                go_ret
                exact ⟨rfl, HB.out.alloc HB.out.size _⟩
              · have hF0 : F = 1 := by rw [HF.out, if_neg h64]
                subst hF0
                have h6 : decide (2 * (P : Int) + 1 ≤ 64) = false := decide_eq_false (by omega)
                go_wp2_with fail
                go_ret
                exact ⟨rfl, HB.out.alloc HB.out.size _⟩
set_option maxRecDepth 100000 in
set_option maxHeartbeats 8000000 in
theorem locals_true (pa many : Nat) (hp : pa < 256) (hm : many < 65536) (w : World) (hE : OpEnv w) : Calls Tryd.prog 8 #[.int .u8 pa, .int .u16 many, .bool true] w fun e w' => e = .returned (.bool true) ∧ Below w.heap.size w w' := by
  have HE := Lib.hid (Env.start hE)
  have HP := Lib.hid hE
  clear hE
  obtain ⟨P, hP⟩ : ∃ P, pa % 65 = P := ⟨_, rfl⟩
  obtain ⟨N, hN⟩ : ∃ N, many % 5001 = N := ⟨_, rfl⟩
  have hPi : ((pa : Int) % 65) = (P : Int) := by omega
  have hNi : ((many : Int) % 5001) = (N : Int) := by omega
  have hP64 : P ≤ 64 := by omega
  have hN5 : N ≤ 5000 := by omega
  clear hP hN
  go_enter Tryd.func8, Tryd.ntmps8
  go_wp2_with fail
  refine (examples17 w HP.out).mono ?_
  rintro e w0 ⟨rfl, c0⟩
  have HB := Lib.hid c0
  have HE1 := Lib.hid (HE.out.later c0)
  clear c0
  go_wp2_with fail
  go_loop [8, 9] (fun v i => RelP P v i) (fun _ i => P - (intOf i).toNat)
  case atStart => exact ⟨0, ⟨#[]⟩, Nat.zero_le _, rfl, rfl, rfl⟩
  case round =>
    obtain ⟨k, S, hk, rfl, rfl, hS⟩ := hrel
    have HS := Lib.hid hS
    clear hS
    by_cases hlt : k < P
    · have hd : decide (k < P) = true := decide_eq_true hlt
      have hsz := size_rep HS.out
      go_wp2_with fail
      go_round
      case rel => exact ⟨k + 1, S ++ ⟨#[127]⟩, by omega, by go_num, rfl, app_rep HS.out⟩
      case measure => simp [intOf]; omega
    · obtain rfl : P = k := by omega
      have hd : decide (P < P) = false := by simp
      have hsz := size_rep HS.out
      go_wp2_with fail
      refine (k_new S w0 noK (fun b hb => hb.elim) (by rw [HS.out, newOk_rep]; exact decide_eq_true hP64)).mono ?_
      rintro e w1 ⟨bb, rfl, hlo, hA, c1⟩
      have HA := Lib.hid (hA _ HE1.out)
      have HB := Lib.hid (HB.out.trans (c1.mono HB.out.size))
      clear hA c1 hlo
      have hmk := make_0 w1
      have hcv := conv_0 w1
      go_wp2_with fail
      refine (new_2 (app2_rep HS.out) hP64 _).mono ?_
      rintro e w2 ⟨pp, F, rfl, hF, c2⟩
      have HF := Lib.hid hF
      have HA := Lib.hid (((HA.out.alloc _).sub (K' := noK) (fun b hb => hb.elim)).later c2)
      have HB := Lib.hid ((HB.out.alloc HB.out.size _).trans (c2.mono (by have := HB.out.size; simp; omega)))
      clear hmk hcv c2 hF
      rw [hsz] at HA
      go_wp2_with fail
      go_loopw [16] (fun i wr => RelQ w bb P N 126 i wr) (fun i _ => N - (intOf i).toNat)
      case atStart => exact ⟨0, Nat.zero_le _, rfl, HA.out, HB.out⟩
      case round =>
        obtain ⟨k, hk, rfl, hA, hB⟩ := hrel
        have HA := Lib.hid hA
        have HB := Lib.hid hB
        clear hA hB
        by_cases hlt : k < N
        · have hd : decide (k < N) = true := decide_eq_true hlt
          go_wp2_with fail
          by_cases h4 : k < 4000
          · have hst := local_few P k 126 (by decide) h4
            have h4a : decide (k < 4000) = true := decide_eq_true h4
            have h4b : decide (4000 ≤ k) = false := decide_eq_false (by omega)
            refine (k_local HA.out (by omega) 126 _ _ _ hst).mono ?_
            rintro e w3 ⟨rfl, hA, hS⟩
            have HA3 := Lib.hid hA
            have HB3 := Lib.hid (HB.out.trans hS.1)
            clear hA hS hst
            go_wp2_with fail
            go_roundw
            case rel => exact ⟨k + 1, by omega, by go_num, HA3.out, HB3.out⟩
            case measure => simp [intOf]; omega
          · have hst := local_many P k 126 (by decide) (by omega)
            have h4a : decide (k < 4000) = false := decide_eq_false h4
            have h4b : decide (4000 ≤ k) = true := decide_eq_true (by omega)
            refine (k_local HA.out (by omega) 126 _ _ _ hst).mono ?_
            rintro e w3 ⟨rfl, hA, hS⟩
            have HA3 := Lib.hid hA
            have HB3 := Lib.hid (HB.out.trans hS.1)
            clear hA hS hst
            go_wp2_with fail
            go_roundw
            case rel => exact ⟨k + 1, by omega, by go_num, HA3.out, HB3.out⟩
            case measure => simp [intOf]; omega
        · obtain rfl : N = k := by omega
          have hd : decide (N < N) = false := by simp
          go_wp2_with fail
          refine (k_done HA.out (by omega) 0 rfl (by decide) (by decide)).mono ?_
          rintro e w8 ⟨g, cap, rfl, ho, hA, c8⟩
          have HB := Lib.hid ((HB.out.trans (c8.mono HB.out.size)))
          clear hA ho c8
          obtain ⟨LS, hLS⟩ : ∃ LS : ByteArray, (⟨(locI N 126).toArray⟩ : ByteArray) = LS := ⟨_, rfl⟩
          obtain ⟨M, hM⟩ : ∃ M, min N 4000 = M := ⟨_, rfl⟩
          have hls : LS.size = M := by rw [← hLS, ← hM]; show (locI N 126).toArray.size = _; simp [locI]
          have hlb : ∀ j, j < M → LS.data.toList[j]? = some 126 := fun j hj => by rw [← hLS]; unfold locI; rw [hM]; simp [hj]
          have hmn : min (N : Int) 4000 = (M : Int) := by rw [← hM]; omega
          have HLB := Lib.hid hlb
          rw [hLS]
          clear hLS hlb
          go_wp2_with fail
          go_loop [21] (fun i => RelM M i) (fun i => M - (intOf i).toNat)
          case atStart => exact ⟨0, Nat.zero_le _, rfl⟩
          case round =>
            obtain ⟨k, hk, rfl⟩ := hrel
            by_cases hlt : k < M
            · have hd : decide (k < M) = true := decide_eq_true hlt
              have hx : LS[k]'(by rw [hls]; exact hlt) = (126 : UInt8) := by
                obtain ⟨_, h⟩ := List.getElem?_eq_some_iff.1 (HLB.out k hlt)
                exact h
              go_wp2_with fail
              go_round
              case rel => exact ⟨k + 1, by omega, by go_num⟩
              case measure => simp [intOf]; omega
            · obtain rfl : M = k := by omega
              have hd : decide (M < M) = false := by simp
              by_cases h64 : 2 * P + 1 ≤ 64
              · have hF0 : F = 0 := by rw [HF.out, if_pos h64]
                subst hF0
                have h6 : decide (2 * (P : Int) + 1 ≤ 64) = true := decide_eq_true (by omega)
                go_wp2_with fail
                go_ret
                exact ⟨rfl, HB.out.alloc HB.out.size _⟩
              · have hF0 : F = 1 := by rw [HF.out, if_neg h64]
                subst hF0
                have h6 : decide (2 * (P : Int) + 1 ≤ 64) = false := decide_eq_false (by omega)
                go_wp2_with fail
                go_ret
                exact ⟨rfl, HB.out.alloc HB.out.size _⟩
theorem locals_walk (pa many : Nat) (wide : Bool) (hp : pa < 256) (hm : many < 65536) (w : World) (hE : OpEnv w) : Calls Tryd.prog 8 #[.int .u8 pa, .int .u16 many, .bool wide] w fun e w' => e = .returned (.bool true) ∧ Below w.heap.size w w' := by
  cases wide
  · exact locals_false pa many hp hm w hE
  · exact locals_true pa many hp hm w hE
end Go.Proofs.YtlbgbpgjccbbjaaDoor.Asm
