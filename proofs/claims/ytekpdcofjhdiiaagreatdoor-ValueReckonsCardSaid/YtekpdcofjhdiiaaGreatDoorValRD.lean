/-
  The reference's Digits of chapter 10: what is left to be written of a number; the walk. No condition beyond what each theorem names.
-/
import Derived.Test.YtekpdcofjhdiiaaGreatDoorValU
namespace Go.Proofs.YtekpdcofjhdiiaaGreatDoor.Val
open Go.RowKit Go.Maps Go.Lib
set_option linter.unusedVariables false
set_option linter.unusedSimpArgs false
def remD (u m : Nat) : List UInt8 := if u = 0 then List.replicate m 48 else digitsL u m
theorem rem_len (u m : Nat) (hu : u < 18446744073709551616) : (remD u m).length ≤ max m 20 := by
  unfold remD
  by_cases h : u = 0
  · rw [if_pos h, List.length_replicate]; omega
  · rw [if_neg h]
    unfold digitsL
    rw [List.length_append, List.length_replicate]
    have h1 : (decDigits u).length ≤ 20 := by
      have := Lib.numDigits_eq u (by omega) hu
      rw [decDigits_length]
      split at this <;> omega
    omega
theorem rem_zero : remD 0 0 = [] := rfl
theorem rem_start (u m : Nat) (hm : 1 ≤ m) : remD u m = digitsL u m := by
  unfold remD
  by_cases h : u = 0
  · subst h
    rw [if_pos rfl]
    unfold digitsL
    rw [show decDigits 0 = [48] by rw [decDigits]; rfl]
    obtain ⟨k, rfl⟩ : ∃ k, m = k + 1 := ⟨m - 1, by omega⟩
    rw [List.length_singleton, show k + 1 - 1 = k by omega, List.replicate_succ']
  · rw [if_neg h]
theorem rem_step (u m : Nat) (h : 0 < u ∨ 0 < m) : remD u m = remD (u / 10) (m - 1) ++ [UInt8.ofNat (48 + u % 10)] := by
  by_cases hu : u = 0
  · subst hu
    obtain ⟨k, rfl⟩ : ∃ k, m = k + 1 := ⟨m - 1, by omega⟩
    show List.replicate (k + 1) 48 = List.replicate k 48 ++ [48]
    rw [List.replicate_succ']
  · unfold remD
    rw [if_neg hu]
    by_cases h1 : u < 10
    · rw [if_pos (by omega)]
      unfold digitsL
      rw [decDigits, dif_pos h1, List.length_singleton, Nat.mod_eq_of_lt h1]
    · rw [if_neg (by omega)]
      unfold digitsL
      rw [decDigits, dif_neg h1, List.length_append, List.length_singleton, ← List.append_assoc, Nat.sub_sub, Nat.add_comm 1]
def szOf : Value → Nat
  | .string s => s.size
  | _ => 0
theorem conv_one (W : World) (b : Nat) (k : UInt8) (hc : W.cell? ⟨b, 0, none⟩ = some (.int .u8 (k.toNat : Int))) : (convert 82 9 (.slice (some ⟨b, 0, none⟩) 1 1)).run Tryz.prog W = .ok (.string ⟨#[k]⟩) W := by
  have h := run_convert_bytes_arg W 82 5 Tryz.underlying82 Tryz.underlying5 b 0 1 1 [(k.toNat : Int)] (by simp) (fun i hi => by
    obtain rfl : i = 0 := by omega
    exact hc) 9 Tryz.underlying9
  rw [h]
  simp [strOfNums]
set_option maxRecDepth 100000 in
set_option maxHeartbeats 2000000 in
theorem rdig_loop (n : Int) (hn : I64 n) (m : Nat) (hm : m ≤ 10) (hm1 : 1 ≤ m) (w : World) (R : ByteArray) (hR : R = ⟨(digitsL n.natAbs m).toArray⟩) : Calls Tryz.prog 43 #[.int .i64 n, .int .i64 (m : Int)] w fun e w' => e = .returned (.string R) ∧ Below w.heap.size w w' := by
  have hU : n.natAbs < 18446744073709551616 := by unfold I64 at hn; omega
  obtain ⟨U, hu⟩ : ∃ U, n.natAbs = U := ⟨_, rfl⟩
  have HR := Lib.hid (show R.data.toList = remD U m by rw [hR, rem_start _ _ hm1, hu])
  have HL := Lib.hid (rem_len U m (by omega))
  have hwu : IntKind.u64.wrap n = if n < 0 then 18446744073709551616 - (U : Int) else (U : Int) := by
    unfold I64 at hn
    simp [IntKind.wrap, IntKind.bits, IntKind.signed]
    split <;> omega
  rw [hu] at hU
  clear hR hm1
  have hc : (n < 0 ∧ decide (n < 0) = true ∧ IntKind.u64.wrap n = 18446744073709551616 - (U : Int) ∧ IntKind.u64.wrap (-(18446744073709551616 - (U : Int))) = (U : Int)) ∨ (decide (n < 0) = false ∧ IntKind.u64.wrap n = (U : Int) ∧ True ∧ True) := by
    by_cases h0 : n < 0
    · rw [if_pos h0] at hwu
      refine .inl ⟨h0, decide_eq_true h0, hwu, ?_⟩
      simp [IntKind.wrap, IntKind.bits, IntKind.signed]
      omega
    · rw [if_neg h0] at hwu
      exact .inr ⟨decide_eq_false h0, hwu, trivial, trivial⟩
  clear hwu hu hn
  rcases hc with ⟨_, d0, hwu, hng⟩ | ⟨d0, hwu, hng, _⟩
  all_goals
    go_enter Tryz.func43, Tryz.ntmps43
    go_wp2_with fail
    clear d0 hwu hng
    go_loopw [5, 6] (fun u s wr => ∃ x : Nat, ∃ S : ByteArray, u = .int .u64 (x : Int) ∧ x < 18446744073709551616 ∧ s = .string S ∧ R.data.toList = remD x (m - S.size) ++ S.data.toList ∧ Below w.heap.size w wr) (fun u s _ => (Go.RowKit.intOf u).toNat + (m - szOf s))
    case atStart => exact ⟨U, ⟨#[]⟩, rfl, hU, rfl, by rw [HR.out]; simp [show (⟨#[]⟩ : ByteArray).size = 0 from rfl], Below.refl _ _⟩
    case round =>
      obtain ⟨x, S, rfl, hx, rfl, hS, hB⟩ := hrel
      have HB := Lib.hid hB
      have HS := Lib.hid hS
      have hsz : S.size ≤ 20 := by
        have h := congrArg List.length hS
        rw [HR.out, List.length_append] at h
        have h2 := HL.out
        have h3 : S.data.toList.length = S.size := rfl
        omega
      clear hS hB
      obtain ⟨k, hk⟩ : ∃ k : UInt8, (k.toNat : Int) = 48 + (x : Int) % 10 := ⟨UInt8.ofNat (48 + x % 10), by simp; omega⟩
      have HK := Lib.hid hk
      have hkw : (48 + (x : Int) % 10) % 256 = (k.toNat : Int) := by omega
      have hkw2 : IntKind.u64.wrap (48 + (x : Int) % 10) = (k.toNat : Int) := by rw [hk]; simp [IntKind.wrap, IntKind.bits, IntKind.signed]; omega
      have hkw3 : IntKind.u8.wrap (k.toNat : Int) = (k.toNat : Int) := by simp [IntKind.wrap, IntKind.bits, IntKind.signed]; omega
      have hcv := conv_one (wr.alloc (.cells #[.int .u8 (k.toNat : Int)] 5)) wr.heap.size k (World.cell?_alloc_at _ _ _ _ rfl)
      have hcat : ¬ 9223372036854775807 < (⟨#[k]⟩ : ByteArray).size + S.size := by show ¬ 9223372036854775807 < 1 + S.size; omega
      clear hk
      have hstep : (0 < x ∨ S.size < m) → R.data.toList = remD (x / 10) (m - (⟨#[k]⟩ ++ S : ByteArray).size) ++ (⟨#[k]⟩ ++ S : ByteArray).data.toList := fun h => by
        have hk8 : UInt8.ofNat (48 + x % 10) = k := by
          apply UInt8.toNat_inj.1
          have := HK.out
          simp
          omega
        rw [HS.out, rem_step x (m - S.size) (by omega), hk8, ByteArray.data_append, ByteArray.size_append, show (⟨#[k]⟩ : ByteArray).size = 1 from rfl, Nat.sub_sub, Nat.add_comm 1]
        simp
      have HP := Lib.hid hstep
      clear hstep
      have hrest : (m - (⟨#[k]⟩ ++ S : ByteArray).size) = m - (1 + S.size) := by rw [ByteArray.size_append]; rfl
      have HM := Lib.hid hrest
      clear hrest
      by_cases hx0 : 0 < x
      · have d1 : decide ((0 : Int) < (x : Int)) = true := decide_eq_true (by omega)
        have d1' : decide (0 < x) = true := decide_eq_true hx0
        go_wp2_with fail
        go_roundw
        case rel => exact ⟨x / 10, ⟨#[k]⟩ ++ S, by simp, by omega, rfl, HP.out (.inl hx0), HB.out.alloc HB.out.size _⟩
        case measure => simp [Go.RowKit.intOf, szOf, -ByteArray.size_append]; rw [HM.out]; omega
      · have d1 : decide ((0 : Int) < (x : Int)) = false := decide_eq_false (by omega)
        have d1' : decide (0 < x) = false := decide_eq_false hx0
        by_cases hl : S.size < m
        · have d2 : decide ((S.size : Int) < (m : Int)) = true := decide_eq_true (by omega)
          have d2' : decide (S.size < m) = true := decide_eq_true hl
          go_wp2_with fail
          go_roundw
          case rel => exact ⟨x / 10, ⟨#[k]⟩ ++ S, by simp, by omega, rfl, HP.out (.inr hl), HB.out.alloc HB.out.size _⟩
          case measure => simp [Go.RowKit.intOf, szOf, -ByteArray.size_append]; rw [HM.out]; omega
        · have d2 : decide ((S.size : Int) < (m : Int)) = false := decide_eq_false (by omega)
          have d2' : decide (S.size < m) = false := decide_eq_false hl
          have hSR : S = R := by
            have h := HS.out
            rw [show m - S.size = 0 by omega, show x = 0 by omega, rem_zero, List.nil_append] at h
            exact ByteArray.ext (Array.toList_inj.1 h.symm)
          subst hSR
          go_wp2_with fail
          go_ret
          exact ⟨rfl, HB.out⟩
theorem rdig_any (n : Int) (hn : I64 n) (k : Nat) (hk : k ≤ 9) (w : World) : Calls Tryz.prog 43 #[.int .i64 n, .int .i64 ((k : Int) + 1)] w (StrS w (digitsL n.natAbs (k + 1))) :=
  rdig_loop n hn (k + 1) (by omega) (by omega) w _ rfl
end Go.Proofs.YtekpdcofjhdiiaaGreatDoor.Val
