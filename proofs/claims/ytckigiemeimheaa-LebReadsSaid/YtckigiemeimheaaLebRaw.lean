/-
  What leb.raw and leb.fits answer. No condition beyond what each theorem names.
-/
import Derived.Test.YtckigiemeimheaaProg
import Derived.Test.YtckigiemeimheaaLebBits
import Derived.WalkKit
import Derived.WalkSpells
import Derived.WalkLawsBesides
import Derived.Lib.Hide
namespace Go.Proofs.Ytckigiemeimheaa.Leb
open Go.RowKit
set_option linter.unusedVariables false

theorem results_tmp4 {fn : Func} {t u v x : Tmp} (h : fn.results = #[.tmp t, .tmp u, .tmp v, .tmp x]) (tmps : Array Value) (P : Program) (w : World) :
    (results fn tmps).run P w = .ok (.tuple #[tmps.getD t undef, tmps.getD u undef, tmps.getD v undef, tmps.getD x undef]) w := by
  simp [results, h]

theorem take_at (s : ByteArray) (p k : Nat) (h : p + k < s.size) : (s.data.toList.drop p).take (k + 1) = (s.data.toList.drop p).take k ++ [s[p + k]] := by
  have hl : k < (s.data.toList.drop p).length := by simp only [List.length_drop, Array.length_toList]; show k < s.size - p; omega
  rw [List.take_succ_eq_append_getElem hl, List.getElem_drop]
  rfl

theorem split_at (s : ByteArray) (p k : Nat) (h : p + k < s.size) : s.data.toList.drop p = (s.data.toList.drop p).take k ++ s[p + k] :: (s.data.toList.drop p).drop (k + 1) := by
  have hl : k < (s.data.toList.drop p).length := by simp only [List.length_drop, Array.length_toList]; show k < s.size - p; omega
  conv => lhs; rw [← List.take_append_drop k (s.data.toList.drop p)]
  congr 1
  rw [List.drop_eq_getElem_cons hl, List.getElem_drop]
  rfl

theorem take_len (s : ByteArray) (p k : Nat) (h : p + k ≤ s.size) : ((s.data.toList.drop p).take k).length = k := by
  rw [List.length_take, List.length_drop, Array.length_toList]
  have : s.data.size = s.size := rfl
  omega

/-- what raw answers of bytes -/
def rawA (m : Nat) (l : List UInt8) : Nat × Nat × Nat × Int :=
  match scan m l with
  | some ds => (mod64 (val ds), ds.length, (lastB ds).toNat, 0)
  | none => (0, 0, 0, 2)

set_option maxRecDepth 100000 in
set_option maxHeartbeats 400000 in
theorem raw_in (s : ByteArray) (p m : Nat) (w : World) (hs : s.size ≤ maxLen) (hp : p ≤ s.size) (hm : m ≤ 10) :
    Calls Try.prog 29 #[.string s, .int .i64 p, .int .i64 m] w fun e w' =>
      e = .returned (.tuple #[.int .u64 ((rawA m (s.data.toList.drop p)).1 : Nat), .int .i64 ((rawA m (s.data.toList.drop p)).2.1 : Nat), .int .u8 ((rawA m (s.data.toList.drop p)).2.2.1 : Nat), .int .i64 (rawA m (s.data.toList.drop p)).2.2.2]) ∧ w = w' := by
  unfold maxLen at hs
  have hp0 : decide ((p : Int) < 0) = false := by simp
  have hp1 : decide (s.size < p) = false := by simp; omega
  go_enter Try.func29, Try.ntmps29
  go_wp2
  go_loop [6, 7, 8] (fun n i l => ∃ k : Nat, k ≤ m ∧ p + k ≤ s.size ∧ i = .int .i64 k ∧ (∀ b ∈ (s.data.toList.drop p).take k, 128 ≤ b.toNat) ∧ n = .int .u64 ((mod64 (val ((s.data.toList.drop p).take k)) : Nat) : Int) ∧ (∃ L : Int, l = .int .u8 L)) (fun _ i _ => m - (intOf i).toNat)
  case atStart => exact ⟨0, Nat.zero_le _, by omega, rfl, by simp, by simp [mod64, val], ⟨0, rfl⟩⟩
  case round =>
    obtain ⟨k, hk, hk2, rfl, hb, rfl, ⟨L, rfl⟩⟩ := hrel
    have hlen := take_len s p k hk2
    have HB := Lib.hid hb
    clear hb
    by_cases h1 : k < m
    · by_cases h2 : p + k < s.size
      · have HS := Lib.hid (raw_step ((s.data.toList.drop p).take k) s[p + k] k hlen (by omega))
        have HT := Lib.hid (take_at s p k h2)
        have HL := Lib.hid hlen
        clear hlen
        by_cases h3 : s[p + k].toNat < 128
        · have HA := Lib.hid (show rawA m (s.data.toList.drop p) = (mod64 (val ((s.data.toList.drop p).take k ++ [s[p + k]])), k + 1, s[p + k].toNat, 0) by
            have e := split_at s p k h2
            have := scan_of (rest := (s.data.toList.drop p).drop (k + 1)) (k := m) HB.out h3 (by rw [HL.out]; omega)
            rw [← e] at this
            unfold rawA
            rw [this]
            simp [HL.out, lastB])
          go_wp2
          refine bodyPost_ret (results_tmp4 rfl _ _ _) rfl ?_
          refine ⟨?_, rfl⟩
          rw [HA.out, ← HS.out]
          rfl
        · have h4 : 128 ≤ s[p + k].toNat := by omega
          go_wp2
          go_round
          case rel =>
            refine ⟨k + 1, by omega, by omega, by go_num, ?_, ?_, ⟨_, rfl⟩⟩
            · rw [HT.out]
              intro b hb
              rcases List.mem_append.1 hb with hb | hb
              · exact HB.out b hb
              · simp at hb; subst hb; exact h4
            · rw [HT.out, ← HS.out]
          case measure => simp [intOf]; omega
      · have HA := Lib.hid (show rawA m (s.data.toList.drop p) = (0, 0, 0, 2) by
          have e : (s.data.toList.drop p).take k = s.data.toList.drop p := List.take_of_length_le (by simp only [List.length_drop, Array.length_toList]; show s.size - p ≤ k; omega)
          have := scan_none_of (rest := []) (k := m) HB.out (.inr rfl)
          rw [List.append_nil, e] at this
          unfold rawA
          rw [this])
        clear hlen
        go_wp2
        refine bodyPost_ret (results_tmp4 rfl _ _ _) rfl ?_
        refine ⟨?_, rfl⟩
        rw [HA.out]
        rfl
    · have HA := Lib.hid (show rawA m (s.data.toList.drop p) = (0, 0, 0, 2) by
        have := scan_none_of (rest := (s.data.toList.drop p).drop k) (k := m) HB.out (.inl (by rw [hlen]; omega))
        rw [List.take_append_drop] at this
        unfold rawA
        rw [this])
      clear hlen
      go_wp2
      refine bodyPost_ret (results_tmp4 rfl _ _ _) rfl ?_
      refine ⟨?_, rfl⟩
      rw [HA.out]
      rfl

set_option maxRecDepth 100000 in
set_option maxHeartbeats 400000 in
theorem raw_out (s : ByteArray) (at_ m : Int) (w : World) (h : at_ < 0 ∨ (s.size : Int) < at_) :
    Calls Try.prog 29 #[.string s, .int .i64 at_, .int .i64 m] w fun e w' =>
      e = .returned (.tuple #[.int .u64 0, .int .i64 0, .int .u8 0, .int .i64 1]) ∧ w = w' := by
  by_cases h1 : at_ < 0
  · go_enter Try.func29, Try.ntmps29
    go_wp2
    refine bodyPost_ret (results_tmp4 rfl _ _ _) rfl ?_
    exact ⟨rfl, rfl⟩
  · have h2 : (s.size : Int) < at_ := by omega
    go_enter Try.func29, Try.ntmps29
    go_wp2
    refine bodyPost_ret (results_tmp4 rfl _ _ _) rfl ?_
    exact ⟨rfl, rfl⟩

theorem raw_some (s : ByteArray) (at_ m : Int) (w : World) (ds : List UInt8) (hs : s.size ≤ maxLen) (h0 : 0 ≤ at_) (h1 : at_ ≤ s.size) (hm0 : 0 ≤ m) (hm : m ≤ 10) (h : scan m.toNat (s.data.toList.drop at_.toNat) = some ds) :
    Calls Try.prog 29 #[.string s, .int .i64 at_, .int .i64 m] w fun e w' =>
      e = .returned (.tuple #[.int .u64 (mod64 (val ds) : Nat), .int .i64 (ds.length : Nat), .int .u8 ((lastB ds).toNat : Nat), .int .i64 0]) ∧ w = w' := by
  obtain ⟨p, rfl⟩ := Int.eq_ofNat_of_zero_le h0
  obtain ⟨k, rfl⟩ := Int.eq_ofNat_of_zero_le hm0
  refine (raw_in s p k w hs (by omega) (by omega)).mono ?_
  rintro e w' ⟨rfl, rfl⟩
  have h' : scan k (s.data.toList.drop p) = some ds := h
  refine ⟨?_, rfl⟩
  simp only [rawA, h']

theorem raw_none (s : ByteArray) (at_ m : Int) (w : World) (hs : s.size ≤ maxLen) (h0 : 0 ≤ at_) (h1 : at_ ≤ s.size) (hm0 : 0 ≤ m) (hm : m ≤ 10) (h : scan m.toNat (s.data.toList.drop at_.toNat) = none) :
    Calls Try.prog 29 #[.string s, .int .i64 at_, .int .i64 m] w fun e w' =>
      e = .returned (.tuple #[.int .u64 0, .int .i64 0, .int .u8 0, .int .i64 2]) ∧ w = w' := by
  obtain ⟨p, rfl⟩ := Int.eq_ofNat_of_zero_le h0
  obtain ⟨k, rfl⟩ := Int.eq_ofNat_of_zero_le hm0
  refine (raw_in s p k w hs (by omega) (by omega)).mono ?_
  rintro e w' ⟨rfl, rfl⟩
  have h' : scan k (s.data.toList.drop p) = none := h
  refine ⟨?_, rfl⟩
  simp only [rawA, h']
  rfl

set_option maxHeartbeats 400000 in
theorem fits_u (l r : Int) (w : World) (hl : 0 ≤ l) (hl' : l ≤ 255) (hr : 0 ≤ r) (hr' : r ≤ 7) :
    Calls Try.prog 30 #[.int .u8 l, .int .i64 r, .bool false] w fun e w' => e = .returned (.bool (l / 2 ^ r.toNat == 0)) ∧ w = w' := by
  go_enter Try.func30, Try.ntmps30
  go_wp2
  go_ret
  exact ⟨rfl, rfl⟩

def fitU4 (l : Nat) : Bool := decide (l < 16)
def fitU1 (l : Nat) : Bool := decide (l < 2)
theorem fits_u4 (l : Nat) (w : World) (hl' : l < 128) :
    Calls Try.prog 30 #[.int .u8 l, .int .i64 4, .bool false] w fun e w' => e = .returned (.bool (fitU4 l)) ∧ w = w' := by
  refine (fits_u l 4 w (by omega) (by omega) (by decide) (by decide)).mono ?_
  rintro e w' ⟨rfl, rfl⟩
  have h : ((l : Int) / 2 ^ (4 : Int).toNat == 0) = fitU4 l := by
    rw [Bool.eq_iff_iff]
    unfold fitU4
    rw [decide_eq_true_iff, beq_iff_eq]
    show (l : Int) / 16 = 0 ↔ _
    omega
  exact ⟨by rw [h], rfl⟩
theorem fits_u1 (l : Nat) (w : World) (hl' : l < 128) :
    Calls Try.prog 30 #[.int .u8 l, .int .i64 1, .bool false] w fun e w' => e = .returned (.bool (fitU1 l)) ∧ w = w' := by
  refine (fits_u l 1 w (by omega) (by omega) (by decide) (by decide)).mono ?_
  rintro e w' ⟨rfl, rfl⟩
  have h : ((l : Int) / 2 ^ (1 : Int).toNat == 0) = fitU1 l := by
    rw [Bool.eq_iff_iff]
    unfold fitU1
    rw [decide_eq_true_iff, beq_iff_eq]
    show (l : Int) / 2 = 0 ↔ _
    omega
  exact ⟨by rw [h], rfl⟩

theorem fits_s4 (l : Nat) (w : World) (hl' : l < 128) :
    Calls Try.prog 30 #[.int .u8 l, .int .i64 4, .bool true] w fun e w' => e = .returned (.bool (fit4 l)) ∧ w = w' := by
  have hf := fit4_eq l hl'
  have HF := Lib.hid hf
  clear hf
  go_enter Try.func30, Try.ntmps30
  go_wp2
  all_goals go_ret
  all_goals refine ⟨?_, rfl⟩
  all_goals rw [HF.out]
  · rename_i h
    rw [h]
    rfl
  · rfl

theorem fits_s1 (l : Nat) (w : World) (hl' : l < 128) :
    Calls Try.prog 30 #[.int .u8 l, .int .i64 1, .bool true] w fun e w' => e = .returned (.bool (fit1 l)) ∧ w = w' := by
  have hf := fit1_eq l hl'
  have HF := Lib.hid hf
  clear hf
  go_enter Try.func30, Try.ntmps30
  go_wp2
  all_goals go_ret
  all_goals refine ⟨?_, rfl⟩
  all_goals rw [HF.out]
  · rename_i h
    rw [h]
    rfl
  · rfl
end Go.Proofs.Ytckigiemeimheaa.Leb
