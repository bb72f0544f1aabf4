/-
  LebRaw, LebTakeN in one.
-/
import Derived.Test.YteidhccnbfikcaaGreatDoorProg
import Derived.Test.YteidhccnbfikcaaGreatDoorLbA
import Derived.WalkKit
import Derived.WalkSpells
import Derived.WalkLawsBesides
import Derived.Lib.Hide
/- LebRaw: What leb.raw and leb.fits answer. No condition beyond what each theorem names. -/
namespace Go.Proofs.YteidhccnbfikcaaGreatDoor.Leb
open Go.RowKit
set_option linter.unusedVariables false

theorem results_tmp4 {fn : Func} {t u v x : Tmp} (h : fn.results = #[.tmp t, .tmp u, .tmp v, .tmp x]) (tmps : Array Value) (P : Program) (w : World) :
    (results fn tmps).run P w = .ok (.tuple #[tmps.getD t undef, tmps.getD u undef, tmps.getD v undef, tmps.getD x undef]) w := by
  simp [results, h]

theorem take_at (s : ByteArray) (p k : Nat) (h : p + k < s.size) : (s.data.toList.drop p).take (k + 1) = (s.data.toList.drop p).take k ++ [s[p + k]] := by
  have hl : k < (s.data.toList.drop p).length := by simp only [List.length_drop, Array.length_toList]; show k < s.size - p; omega
  rw [List.take_succ_eq_append_getElem hl, List.getElem_drop]
  rfl

theorem split_at (s : ByteArray) (p k : Nat) (h : p + k < s.size) : s.data.toList.drop p = (s.data.toList.drop p).take k ++ s[p + k] :: (s.data.toList.drop p).drop (k + 1) := by
  have hl : k < (s.data.toList.drop p).length := by simp only [List.length_drop, Array.length_toList]; show k < s.size - p; omega
  conv => lhs; rw [← List.take_append_drop k (s.data.toList.drop p)]
  congr 1
  rw [List.drop_eq_getElem_cons hl, List.getElem_drop]
  rfl

theorem take_len (s : ByteArray) (p k : Nat) (h : p + k ≤ s.size) : ((s.data.toList.drop p).take k).length = k := by
  rw [List.length_take, List.length_drop, Array.length_toList]
  have : s.data.size = s.size := rfl
  omega

/-- what raw answers of bytes -/
def rawA (m : Nat) (l : List UInt8) : Nat × Nat × Nat × Int :=
  match scan m l with
  | some ds => (mod64 (val ds), ds.length, (lastB ds).toNat, 0)
  | none => (0, 0, 0, 2)

set_option maxRecDepth 100000 in
set_option maxHeartbeats 400000 in
theorem raw_in (s : ByteArray) (p m : Nat) (w : World) (hs : s.size ≤ maxLen) (hp : p ≤ s.size) (hm : m ≤ 10) :
    Calls Tryz.prog 238 #[.string s, .int .i64 p, .int .i64 m] w fun e w' =>
      e = .returned (.tuple #[.int .u64 ((rawA m (s.data.toList.drop p)).1 : Nat), .int .i64 ((rawA m (s.data.toList.drop p)).2.1 : Nat), .int .u8 ((rawA m (s.data.toList.drop p)).2.2.1 : Nat), .int .i64 (rawA m (s.data.toList.drop p)).2.2.2]) ∧ w = w' := by
  unfold maxLen at hs
  have hp0 : decide ((p : Int) < 0) = false := by simp
  have hp1 : decide (s.size < p) = false := by simp; omega
  go_enter Tryz.func238, Tryz.ntmps238
  go_wp2
  go_loop [6, 7, 8] (fun n i l => ∃ k : Nat, k ≤ m ∧ p + k ≤ s.size ∧ i = .int .i64 k ∧ (∀ b ∈ (s.data.toList.drop p).take k, 128 ≤ b.toNat) ∧ n = .int .u64 ((mod64 (val ((s.data.toList.drop p).take k)) : Nat) : Int) ∧ (∃ L : Int, l = .int .u8 L)) (fun _ i _ => m - (intOf i).toNat)
  case atStart => exact ⟨0, Nat.zero_le _, by omega, rfl, by simp, by simp [mod64, val], ⟨0, rfl⟩⟩
  case round =>
    obtain ⟨k, hk, hk2, rfl, hb, rfl, ⟨L, rfl⟩⟩ := hrel
    have hlen := take_len s p k hk2
    have HB := Lib.hid hb
    clear hb
    by_cases h1 : k < m
    · by_cases h2 : p + k < s.size
      · have HS := Lib.hid (raw_step ((s.data.toList.drop p).take k) s[p + k] k hlen (by omega))
        have HT := Lib.hid (take_at s p k h2)
        have HL := Lib.hid hlen
        clear hlen
        by_cases h3 : s[p + k].toNat < 128
        · have HA := Lib.hid (show rawA m (s.data.toList.drop p) = (mod64 (val ((s.data.toList.drop p).take k ++ [s[p + k]])), k + 1, s[p + k].toNat, 0) by
            have e := split_at s p k h2
            have := scan_of (rest := (s.data.toList.drop p).drop (k + 1)) (k := m) HB.out h3 (by rw [HL.out]; omega)
            rw [← e] at this
            unfold rawA
            rw [this]
            simp [HL.out, lastB])
          go_wp2
          refine bodyPost_ret (results_tmp4 rfl _ _ _) rfl ?_
          refine ⟨?_, rfl⟩
          rw [HA.out, ← HS.out]
          rfl
        · have h4 : 128 ≤ s[p + k].toNat := by omega
          go_wp2
          go_round
          case rel =>
            refine ⟨k + 1, by omega, by omega, by go_num, ?_, ?_, ⟨_, rfl⟩⟩
            · rw [HT.out]
              intro b hb
              rcases List.mem_append.1 hb with hb | hb
              · exact HB.out b hb
              · simp at hb; subst hb; exact h4
            · rw [HT.out, ← HS.out]
          case measure => simp [intOf]; omega
      · have HA := Lib.hid (show rawA m (s.data.toList.drop p) = (0, 0, 0, 2) by
          have e : (s.data.toList.drop p).take k = s.data.toList.drop p := List.take_of_length_le (by simp only [List.length_drop, Array.length_toList]; show s.size - p ≤ k; omega)
          have := scan_none_of (rest := []) (k := m) HB.out (.inr rfl)
          rw [List.append_nil, e] at this
          unfold rawA
          rw [this])
        clear hlen
        go_wp2
        refine bodyPost_ret (results_tmp4 rfl _ _ _) rfl ?_
        refine ⟨?_, rfl⟩
        rw [HA.out]
        rfl
    · have HA := Lib.hid (show rawA m (s.data.toList.drop p) = (0, 0, 0, 2) by
        have := scan_none_of (rest := (s.data.toList.drop p).drop k) (k := m) HB.out (.inl (by rw [hlen]; omega))
        rw [List.take_append_drop] at this
        unfold rawA
        rw [this])
      clear hlen
      go_wp2
      refine bodyPost_ret (results_tmp4 rfl _ _ _) rfl ?_
      refine ⟨?_, rfl⟩
      rw [HA.out]
      rfl

set_option maxRecDepth 100000 in
set_option maxHeartbeats 400000 in
theorem raw_out (s : ByteArray) (at_ m : Int) (w : World) (h : at_ < 0 ∨ (s.size : Int) < at_) :
    Calls Tryz.prog 238 #[.string s, .int .i64 at_, .int .i64 m] w fun e w' =>
      e = .returned (.tuple #[.int .u64 0, .int .i64 0, .int .u8 0, .int .i64 1]) ∧ w = w' := by
  by_cases h1 : at_ < 0
  · go_enter Tryz.func238, Tryz.ntmps238
    go_wp2
    refine bodyPost_ret (results_tmp4 rfl _ _ _) rfl ?_
    exact ⟨rfl, rfl⟩
  · have h2 : (s.size : Int) < at_ := by omega
    go_enter Tryz.func238, Tryz.ntmps238
    go_wp2
    refine bodyPost_ret (results_tmp4 rfl _ _ _) rfl ?_
    exact ⟨rfl, rfl⟩

theorem raw_some (s : ByteArray) (at_ m : Int) (w : World) (ds : List UInt8) (hs : s.size ≤ maxLen) (h0 : 0 ≤ at_) (h1 : at_ ≤ s.size) (hm0 : 0 ≤ m) (hm : m ≤ 10) (h : scan m.toNat (s.data.toList.drop at_.toNat) = some ds) :
    Calls Tryz.prog 238 #[.string s, .int .i64 at_, .int .i64 m] w fun e w' =>
      e = .returned (.tuple #[.int .u64 (mod64 (val ds) : Nat), .int .i64 (ds.length : Nat), .int .u8 ((lastB ds).toNat : Nat), .int .i64 0]) ∧ w = w' := by
  obtain ⟨p, rfl⟩ := Int.eq_ofNat_of_zero_le h0
  obtain ⟨k, rfl⟩ := Int.eq_ofNat_of_zero_le hm0
  refine (raw_in s p k w hs (by omega) (by omega)).mono ?_
  rintro e w' ⟨rfl, rfl⟩
  have h' : scan k (s.data.toList.drop p) = some ds := h
  refine ⟨?_, rfl⟩
  simp only [rawA, h']

theorem raw_none (s : ByteArray) (at_ m : Int) (w : World) (hs : s.size ≤ maxLen) (h0 : 0 ≤ at_) (h1 : at_ ≤ s.size) (hm0 : 0 ≤ m) (hm : m ≤ 10) (h : scan m.toNat (s.data.toList.drop at_.toNat) = none) :
    Calls Tryz.prog 238 #[.string s, .int .i64 at_, .int .i64 m] w fun e w' =>
      e = .returned (.tuple #[.int .u64 0, .int .i64 0, .int .u8 0, .int .i64 2]) ∧ w = w' := by
  obtain ⟨p, rfl⟩ := Int.eq_ofNat_of_zero_le h0
  obtain ⟨k, rfl⟩ := Int.eq_ofNat_of_zero_le hm0
  refine (raw_in s p k w hs (by omega) (by omega)).mono ?_
  rintro e w' ⟨rfl, rfl⟩
  have h' : scan k (s.data.toList.drop p) = none := h
  refine ⟨?_, rfl⟩
  simp only [rawA, h']
  rfl

set_option maxHeartbeats 400000 in
theorem fits_u (l r : Int) (w : World) (hl : 0 ≤ l) (hl' : l ≤ 255) (hr : 0 ≤ r) (hr' : r ≤ 7) :
    Calls Tryz.prog 239 #[.int .u8 l, .int .i64 r, .bool false] w fun e w' => e = .returned (.bool (l / 2 ^ r.toNat == 0)) ∧ w = w' := by
  go_enter Tryz.func239, Tryz.ntmps239
  go_wp2
  go_ret
  exact ⟨rfl, rfl⟩

def fitU4 (l : Nat) : Bool := decide (l < 16)
def fitU1 (l : Nat) : Bool := decide (l < 2)
theorem fits_u4 (l : Nat) (w : World) (hl' : l < 128) :
    Calls Tryz.prog 239 #[.int .u8 l, .int .i64 4, .bool false] w fun e w' => e = .returned (.bool (fitU4 l)) ∧ w = w' := by
  refine (fits_u l 4 w (by omega) (by omega) (by decide) (by decide)).mono ?_
  rintro e w' ⟨rfl, rfl⟩
  have h : ((l : Int) / 2 ^ (4 : Int).toNat == 0) = fitU4 l := by
    rw [Bool.eq_iff_iff]
    unfold fitU4
    rw [decide_eq_true_iff, beq_iff_eq]
    show (l : Int) / 16 = 0 ↔ _
    omega
  exact ⟨by rw [h], rfl⟩
theorem fits_u1 (l : Nat) (w : World) (hl' : l < 128) :
    Calls Tryz.prog 239 #[.int .u8 l, .int .i64 1, .bool false] w fun e w' => e = .returned (.bool (fitU1 l)) ∧ w = w' := by
  refine (fits_u l 1 w (by omega) (by omega) (by decide) (by decide)).mono ?_
  rintro e w' ⟨rfl, rfl⟩
  have h : ((l : Int) / 2 ^ (1 : Int).toNat == 0) = fitU1 l := by
    rw [Bool.eq_iff_iff]
    unfold fitU1
    rw [decide_eq_true_iff, beq_iff_eq]
    show (l : Int) / 2 = 0 ↔ _
    omega
  exact ⟨by rw [h], rfl⟩

theorem fits_s4 (l : Nat) (w : World) (hl' : l < 128) :
    Calls Tryz.prog 239 #[.int .u8 l, .int .i64 4, .bool true] w fun e w' => e = .returned (.bool (fit4 l)) ∧ w = w' := by
  have hf := fit4_eq l hl'
  have HF := Lib.hid hf
  clear hf
  go_enter Tryz.func239, Tryz.ntmps239
  go_wp2
  all_goals go_ret
  all_goals refine ⟨?_, rfl⟩
  all_goals rw [HF.out]
  · rename_i h
    rw [h]
    rfl
  · rfl

theorem fits_s1 (l : Nat) (w : World) (hl' : l < 128) :
    Calls Tryz.prog 239 #[.int .u8 l, .int .i64 1, .bool true] w fun e w' => e = .returned (.bool (fit1 l)) ∧ w = w' := by
  have hf := fit1_eq l hl'
  have HF := Lib.hid hf
  clear hf
  go_enter Tryz.func239, Tryz.ntmps239
  go_wp2
  all_goals go_ret
  all_goals refine ⟨?_, rfl⟩
  all_goals rw [HF.out]
  · rename_i h
    rw [h]
    rfl
  · rfl
end Go.Proofs.YteidhccnbfikcaaGreatDoor.Leb

/- LebTakeN: What leb.take answers at its four types, and U32, S32, U64, S64. No condition beyond what each theorem names. -/
namespace Go.Proofs.YteidhccnbfikcaaGreatDoor.Leb
open Go.RowKit
set_option linter.unusedVariables false

theorem ret3 {k1 k2 k3 : IntKind} {a b c a' b' c' : Int} (h1 : a = a') (h2 : b = b') (h3 : c = c') :
    Ending.returned (.tuple #[.int k1 a, .int k2 b, .int k3 c]) = .returned (.tuple #[.int k1 a', .int k2 b', .int k3 c']) := by rw [h1, h2, h3]

theorem u32_of (ds : List UInt8) (v : Nat) (h : rdU 32 ds = some v) : IntKind.u32.wrap ((mod64 (val ds) : Nat) : Int) = (v : Int) := by
  unfold rdU at h
  split at h
  · simp only [Option.some.injEq] at h
    subst h
    rw [IntKind.wrap_u32]; unfold mod64; omega
  · cases h
theorem u64_of (ds : List UInt8) (v : Nat) (h : rdU 64 ds = some v) : ((mod64 (val ds) : Nat) : Int) = (v : Int) := by
  unfold rdU at h
  split at h
  · simp only [Option.some.injEq] at h
    subst h
    unfold mod64; omega
  · cases h

theorem rdS_some {bits : Nat} {ds : List UInt8} {v : Int} (h : rdS bits ds = some v) : v = sval ds ∧ -(2 ^ (bits - 1) : Int) ≤ v ∧ v < (2 ^ (bits - 1) : Int) := by
  unfold rdS at h
  split at h
  · rename_i hr
    simp only [Option.some.injEq] at h
    subst h
    exact ⟨rfl, hr⟩
  · cases h
theorem sval_neg (ds : List UInt8) (h : 64 ≤ (lastB ds).toNat) (h2 : (lastB ds).toNat < 128) : sval ds = (val ds : Int) - 2 ^ (7 * ds.length) := by
  unfold sval
  rw [if_pos]
  show 64 ≤ (lastB ds).toNat % 128
  omega
theorem sval_pos (ds : List UInt8) (h : (lastB ds).toNat < 64) : sval ds = (val ds : Int) := by
  unfold sval
  rw [if_neg]
  · omega
  · show ¬ 64 ≤ (lastB ds).toNat % 128
    omega
theorem i32_neg (ds : List UInt8) (v : Int) (h : rdS 32 ds = some v) (hl : ds.length ≤ 9) (hg : 64 ≤ (lastB ds).toNat) (hL : (lastB ds).toNat < 128) :
    wrap32 (bits .or .u64 ((mod64 (val ds) : Nat) : Int) (IntKind.u64.wrap (18446744073709551615 * 2 ^ (7 * ds.length)))) = v := by
  obtain ⟨e, h1, h2⟩ := rdS_some h
  rw [or_sign _ _ (by omega) (val_lt ds), ← sval_neg ds hg hL, ← e]
  unfold wrap32
  omega
theorem i64_neg9 (ds : List UInt8) (v : Int) (h : rdS 64 ds = some v) (hl : ds.length ≤ 9) (hg : 64 ≤ (lastB ds).toNat) (hL : (lastB ds).toNat < 128) :
    wrap64 (bits .or .u64 ((mod64 (val ds) : Nat) : Int) (IntKind.u64.wrap (18446744073709551615 * 2 ^ (7 * ds.length)))) = v := by
  obtain ⟨e, h1, h2⟩ := rdS_some h
  rw [or_sign _ _ (by omega) (val_lt ds), ← sval_neg ds hg hL, ← e]
  unfold wrap64
  omega
theorem i64_neg (ds : List UInt8) (v : Int) (h : rdS 64 ds = some v) (hl : ds.length = 10) (hg : 64 ≤ (lastB ds).toNat) (hL : (lastB ds).toNat < 128) :
    wrap64 ((mod64 (val ds) : Nat) : Int) = v := by
  obtain ⟨e, h1, h2⟩ := rdS_some h
  have h3 := sval_neg ds hg hL
  rw [hl] at h3
  unfold wrap64 mod64
  omega
theorem i32_pos (ds : List UInt8) (v : Int) (h : rdS 32 ds = some v) (hl : ds.length ≤ 10) (hg : (lastB ds).toNat < 64) : wrap32 ((mod64 (val ds) : Nat) : Int) = v := by
  obtain ⟨e, h1, h2⟩ := rdS_some h
  have h3 := sval_pos ds hg
  unfold wrap32 mod64
  omega
theorem i64_pos (ds : List UInt8) (v : Int) (h : rdS 64 ds = some v) (hl : ds.length ≤ 10) (hg : (lastB ds).toNat < 64) : wrap64 ((mod64 (val ds) : Nat) : Int) = v := by
  obtain ⟨e, h1, h2⟩ := rdS_some h
  have h3 := sval_pos ds hg
  unfold wrap64 mod64
  omega

theorem scan_len {k : Nat} {l ds : List UInt8} (h : scan k l = some ds) : 0 < ds.length ∧ ds.length ≤ k ∧ ds.length ≤ l.length := by
  obtain ⟨ini, last, rest, rfl, rfl, _, _, h4⟩ := scan_some h
  simp
  omega


/-! ### uint32 -/
set_option maxRecDepth 100000 in
set_option maxHeartbeats 400000 in
theorem take_u32 (s : ByteArray) (at_ : Int) (w : World) (hs : s.size ≤ maxLen) :
    Calls Tryz.prog 235 #[.string s, .int .i64 at_, .int .i64 32, .bool false] w fun e w' =>
      e = .returned (.tuple #[.int .u32 (ansU 32 s.data.toList at_).1, .int .i64 (ansU 32 s.data.toList at_).2.1, .int .i64 (ansU 32 s.data.toList at_).2.2]) ∧ w = w' := by
  have hsz : (s.data.toList.length : Int) = s.size := rfl
  by_cases hout : at_ < 0 ∨ (s.size : Int) < at_
  · have HA := Lib.hid (show ansU 32 s.data.toList at_ = (0, 0, 1) by unfold ansU; rw [if_pos (by rw [hsz]; exact hout)])
    have HO := Lib.hid hout
    clear hout hs hsz
    go_enter Tryz.func235, Tryz.ntmps235
    go_wp2_with (go_at_call 238; refine (raw_out s at_ _ _ HO.out).mono ?_; rintro e w' ⟨rfl, rfl⟩)
    go_ret3
    refine ⟨?_, rfl⟩
    rw [HA.out]
    rfl
  · have h0 : 0 ≤ at_ := by omega
    have h1 : at_ ≤ s.size := by omega
    have HC := Lib.hid (show ¬ (at_ < 0 ∨ (s.data.toList.length : Int) < at_) by rw [hsz]; exact hout)
    have HS := Lib.hid hs
    clear hout hs hsz
    cases hsc : scan 5 (s.data.toList.drop at_.toNat) with
    | none =>
      have HA := Lib.hid (show ansU 32 s.data.toList at_ = (0, 0, 2) by unfold ansU readU; rw [if_neg HC.out]; simp [hsc])
      have H := Lib.hid hsc
      clear hsc
      go_enter Tryz.func235, Tryz.ntmps235
      go_wp2_with (go_at_call 238; refine (raw_none s at_ 5 _ HS.out h0 h1 (by decide) (by decide) H.out).mono ?_; rintro e w' ⟨rfl, rfl⟩)
      go_ret3
      refine ⟨?_, rfl⟩
      rw [HA.out]
      rfl
    | some ds =>
      obtain ⟨hl1, hl2, hl3⟩ := scan_len hsc
      have hb : at_ + ds.length ≤ s.size := by
        have e : (s.data.toList.drop at_.toNat).length = s.size - at_.toNat := by rw [List.length_drop]; rfl
        omega
      have hm : (s.size : Int) ≤ 9223372036854775807 := by have := HS.out; unfold maxLen at this; omega
      obtain ⟨ini, last, rest, hds, _, hlast, _, _⟩ := scan_some hsc
      have hlb : lastB ds = last := by rw [hds, lastB_snoc]
      have hdl : ds.length = ini.length + 1 := by rw [hds]; simp
      have HR := Lib.hid (show ∀ x, (match rdU 32 ds with | none => (0, 0, 2) | some v => (v, at_ + ds.length, 0)) = x → ansU 32 s.data.toList at_ = x by
        rintro x rfl
        unfold ansU readU
        rw [if_neg HC.out]
        simp only [hsc]
        cases rdU 32 ds <;> rfl)
      have H := Lib.hid hsc
      clear hsc
      have hL : (lastB ds).toNat < 128 := by rw [hlb]; exact hlast
      have HRU := Lib.hid (room_u ini last hlast 4)
      have HD := Lib.hid hds
      have HLB := Lib.hid hlb
      have HDL := Lib.hid hdl
      have HLS := Lib.hid hL
      clear hds hlb hdl hL
      by_cases hq : ds.length = 5
      · have hq1 : ((ds.length : Int) == 5) = true := by simp; omega
        have HQ := Lib.hid hq
        clear hq
        by_cases hf : (lastB ds).toNat < 2 ^ 4
        · have hfit : fitU4 (lastB ds).toNat = true := by unfold fitU4; simpa using hf
          have hrd : rdU 32 ds = some (val ds) := by
            unfold rdU
            refine if_pos ?_
            have h1 := HRU.out
            rw [show 7 * ini.length + 4 = 32 by have := HQ.out; have := HDL.out; omega, ← HD.out, ← HLB.out] at h1
            exact h1.2 hf
          have HV := Lib.hid (u32_of ds _ hrd)
          have HA := Lib.hid (HR.out _ rfl)
          rw [hrd] at HA
          clear hrd hf
          go_enter Tryz.func235, Tryz.ntmps235
          go_wp2_with first | (go_at_call 238; refine (raw_some s at_ 5 _ ds HS.out h0 h1 (by decide) (by decide) H.out).mono ?_; rintro e w' ⟨rfl, rfl⟩) | (go_at_call 239; refine (fits_u4 _ _ (by have := HLS.out; omega)).mono ?_; rintro e w' ⟨rfl, rfl⟩)
          go_ret3
          refine ⟨?_, rfl⟩
          rw [HA.out]
          exact ret3 HV.out (by first | rfl | omega) rfl
        · have hfit : fitU4 (lastB ds).toNat = false := by unfold fitU4; simpa using hf
          have hrd : rdU 32 ds = none := by
            unfold rdU
            refine if_neg ?_
            have h1 := HRU.out
            rw [show 7 * ini.length + 4 = 32 by have := HQ.out; have := HDL.out; omega, ← HD.out, ← HLB.out] at h1
            exact fun hx => hf (h1.1 hx)
          have HA := Lib.hid (HR.out _ rfl)
          rw [hrd] at HA
          clear hrd hf
          go_enter Tryz.func235, Tryz.ntmps235
          go_wp2_with first | (go_at_call 238; refine (raw_some s at_ 5 _ ds HS.out h0 h1 (by decide) (by decide) H.out).mono ?_; rintro e w' ⟨rfl, rfl⟩) | (go_at_call 239; refine (fits_u4 _ _ (by have := HLS.out; omega)).mono ?_; rintro e w' ⟨rfl, rfl⟩)
          go_ret3
          refine ⟨?_, rfl⟩
          rw [HA.out]
          rfl
      · have hq1 : ((ds.length : Int) == 5) = false := by simp; omega
        have hrd : rdU 32 ds = some (val ds) := by
          unfold rdU
          refine if_pos ?_
          have h1 := val_lt ds
          have : (2 : Nat) ^ (7 * ds.length) ≤ 2 ^ 32 := Nat.pow_le_pow_right (by decide) (by omega)
          omega
        have HV := Lib.hid (u32_of ds _ hrd)
        have HA := Lib.hid (HR.out _ rfl)
        rw [hrd] at HA
        clear hrd hq
        go_enter Tryz.func235, Tryz.ntmps235
        go_wp2_with first | (go_at_call 238; refine (raw_some s at_ 5 _ ds HS.out h0 h1 (by decide) (by decide) H.out).mono ?_; rintro e w' ⟨rfl, rfl⟩) | (go_at_call 239; refine (fits_u4 _ _ (by have := HLS.out; omega)).mono ?_; rintro e w' ⟨rfl, rfl⟩)
        go_ret3
        refine ⟨?_, rfl⟩
        rw [HA.out]
        exact ret3 HV.out (by first | rfl | omega) rfl

/-! ### uint64 -/
set_option maxRecDepth 100000 in
set_option maxHeartbeats 400000 in
theorem take_i32 (s : ByteArray) (at_ : Int) (w : World) (hs : s.size ≤ maxLen) :
    Calls Tryz.prog 210 #[.string s, .int .i64 at_, .int .i64 32, .bool true] w fun e w' =>
      e = .returned (.tuple #[.int .i32 (ansS 32 s.data.toList at_).1, .int .i64 (ansS 32 s.data.toList at_).2.1, .int .i64 (ansS 32 s.data.toList at_).2.2]) ∧ w = w' := by
  have hsz : (s.data.toList.length : Int) = s.size := rfl
  by_cases hout : at_ < 0 ∨ (s.size : Int) < at_
  · have HA := Lib.hid (show ansS 32 s.data.toList at_ = (0, 0, 1) by unfold ansS; rw [if_pos (by rw [hsz]; exact hout)])
    have HO := Lib.hid hout
    clear hout hs hsz
    go_enter Tryz.func210, Tryz.ntmps210
    go_wp2_with (go_at_call 238; refine (raw_out s at_ _ _ HO.out).mono ?_; rintro e w' ⟨rfl, rfl⟩)
    go_ret3
    refine ⟨?_, rfl⟩
    rw [HA.out]
    rfl
  · have h0 : 0 ≤ at_ := by omega
    have h1 : at_ ≤ s.size := by omega
    have HC := Lib.hid (show ¬ (at_ < 0 ∨ (s.data.toList.length : Int) < at_) by rw [hsz]; exact hout)
    have HS := Lib.hid hs
    clear hout hs hsz
    cases hsc : scan 5 (s.data.toList.drop at_.toNat) with
    | none =>
      have HA := Lib.hid (show ansS 32 s.data.toList at_ = (0, 0, 2) by unfold ansS readS; rw [if_neg HC.out]; simp [hsc])
      have H := Lib.hid hsc
      clear hsc
      go_enter Tryz.func210, Tryz.ntmps210
      go_wp2_with (go_at_call 238; refine (raw_none s at_ 5 _ HS.out h0 h1 (by decide) (by decide) H.out).mono ?_; rintro e w' ⟨rfl, rfl⟩)
      go_ret3
      refine ⟨?_, rfl⟩
      rw [HA.out]
      rfl
    | some ds =>
      obtain ⟨hl1, hl2, hl3⟩ := scan_len hsc
      have hb : at_ + ds.length ≤ s.size := by
        have e : (s.data.toList.drop at_.toNat).length = s.size - at_.toNat := by rw [List.length_drop]; rfl
        omega
      have hm : (s.size : Int) ≤ 9223372036854775807 := by have := HS.out; unfold maxLen at this; omega
      obtain ⟨ini, last, rest, hds, _, hlast, _, _⟩ := scan_some hsc
      have hlb : lastB ds = last := by rw [hds, lastB_snoc]
      have hdl : ds.length = ini.length + 1 := by rw [hds]; simp
      have HR := Lib.hid (show ∀ x, (match rdS 32 ds with | none => (0, 0, 2) | some v => (v, at_ + ds.length, 0)) = x → ansS 32 s.data.toList at_ = x by
        rintro x rfl
        unfold ansS readS
        rw [if_neg HC.out]
        simp only [hsc]
        cases rdS 32 ds <;> rfl)
      have H := Lib.hid hsc
      clear hsc
      have hL : (lastB ds).toNat < 128 := by rw [hlb]; exact hlast
      have HRU := Lib.hid (room_s ini last hlast 3)
      have HD := Lib.hid hds
      have HLB := Lib.hid hlb
      have HDL := Lib.hid hdl
      have HLS := Lib.hid hL
      clear hds hlb hdl hL
      by_cases hg : 64 ≤ (lastB ds).toNat
      · have hand : bits .and .u8 ((lastB ds).toNat : Int) 64 = 64 := and64_yes _ hg HLS.out
        have HG := Lib.hid hg
        clear hg
        by_cases hq : ds.length = 5
        · have hq1 : ((ds.length : Int) == 5) = true := by simp; omega
          have hsh : 7 * (ds.length : Int) < 64 := by omega
          have HQ := Lib.hid hq
          clear hq
          have HE := Lib.hid (show 7 * ini.length + 3 = 31 by have := HQ.out; have := HDL.out; omega)
          by_cases hf : -(2 ^ 3) ≤ s7 (lastB ds).toNat ∧ s7 (lastB ds).toNat < 2 ^ 3
          · have hfit : fit4 (lastB ds).toNat = true := by unfold fit4; exact decide_eq_true hf
            have hrd : rdS 32 ds = some (sval ds) := by
              unfold rdS
              refine if_pos ?_
              have h1 := HRU.out
              rw [HE.out, ← HD.out, ← HLB.out] at h1
              exact h1.2 hf
            have HV := Lib.hid (i32_neg ds _ hrd (by have := HQ.out; omega) HG.out HLS.out)
            have HA := Lib.hid (HR.out _ rfl)
            rw [hrd] at HA
            clear hrd hf
            go_enter Tryz.func210, Tryz.ntmps210
            go_wp2_with first | (go_at_call 238; refine (raw_some s at_ 5 _ ds HS.out h0 h1 (by decide) (by decide) H.out).mono ?_; rintro e w' ⟨rfl, rfl⟩) | (go_at_call 239; refine (fits_s4 _ _ (by have := HLS.out; omega)).mono ?_; rintro e w' ⟨rfl, rfl⟩)
            go_ret3
            refine ⟨?_, rfl⟩
            rw [HA.out]
            exact ret3 HV.out (by first | rfl | omega) rfl
          · have hfit : fit4 (lastB ds).toNat = false := by unfold fit4; exact decide_eq_false hf
            have hrd : rdS 32 ds = none := by
              unfold rdS
              refine if_neg ?_
              have h1 := HRU.out
              rw [HE.out, ← HD.out, ← HLB.out] at h1
              exact fun hx => hf (h1.1 hx)
            have HA := Lib.hid (HR.out _ rfl)
            rw [hrd] at HA
            clear hrd hf
            go_enter Tryz.func210, Tryz.ntmps210
            go_wp2_with first | (go_at_call 238; refine (raw_some s at_ 5 _ ds HS.out h0 h1 (by decide) (by decide) H.out).mono ?_; rintro e w' ⟨rfl, rfl⟩) | (go_at_call 239; refine (fits_s4 _ _ (by have := HLS.out; omega)).mono ?_; rintro e w' ⟨rfl, rfl⟩)
            go_ret3
            refine ⟨?_, rfl⟩
            rw [HA.out]
            rfl
        · have hq1 : ((ds.length : Int) == 5) = false := by simp; omega
          have hsh : 7 * (ds.length : Int) < 64 := by omega
          have hrd : rdS 32 ds = some (sval ds) := by
            unfold rdS
            refine if_pos ?_
            have h1 := short_s ini last hlast
            rw [← HD.out] at h1
            have : (2 : Int) ^ (7 * ini.length + 6) ≤ 2 ^ 31 := by exact_mod_cast Nat.pow_le_pow_right (show 0 < 2 by decide) (show 7 * ini.length + 6 ≤ 31 by have := HDL.out; omega)
            omega
          have HV := Lib.hid (i32_neg ds _ hrd (by omega) HG.out HLS.out)
          have HA := Lib.hid (HR.out _ rfl)
          rw [hrd] at HA
          clear hrd hq
          go_enter Tryz.func210, Tryz.ntmps210
          go_wp2_with first | (go_at_call 238; refine (raw_some s at_ 5 _ ds HS.out h0 h1 (by decide) (by decide) H.out).mono ?_; rintro e w' ⟨rfl, rfl⟩) | (go_at_call 239; refine (fits_s4 _ _ (by have := HLS.out; omega)).mono ?_; rintro e w' ⟨rfl, rfl⟩)
          go_ret3
          refine ⟨?_, rfl⟩
          rw [HA.out]
          exact ret3 HV.out (by first | rfl | omega) rfl
      · replace hg : (lastB ds).toNat < 64 := by omega
        have hand : bits .and .u8 ((lastB ds).toNat : Int) 64 = 0 := and64_no _ hg
        have HG := Lib.hid hg
        clear hg
        by_cases hq : ds.length = 5
        · have hq1 : ((ds.length : Int) == 5) = true := by simp; omega
          have hsh : 7 * (ds.length : Int) < 64 := by omega
          have HQ := Lib.hid hq
          clear hq
          have HE := Lib.hid (show 7 * ini.length + 3 = 31 by have := HQ.out; have := HDL.out; omega)
          by_cases hf : -(2 ^ 3) ≤ s7 (lastB ds).toNat ∧ s7 (lastB ds).toNat < 2 ^ 3
          · have hfit : fit4 (lastB ds).toNat = true := by unfold fit4; exact decide_eq_true hf
            have hrd : rdS 32 ds = some (sval ds) := by
              unfold rdS
              refine if_pos ?_
              have h1 := HRU.out
              rw [HE.out, ← HD.out, ← HLB.out] at h1
              exact h1.2 hf
            have HV := Lib.hid (i32_pos ds _ hrd (by have := HQ.out; omega) HG.out)
            have HA := Lib.hid (HR.out _ rfl)
            rw [hrd] at HA
            clear hrd hf
            go_enter Tryz.func210, Tryz.ntmps210
            go_wp2_with first | (go_at_call 238; refine (raw_some s at_ 5 _ ds HS.out h0 h1 (by decide) (by decide) H.out).mono ?_; rintro e w' ⟨rfl, rfl⟩) | (go_at_call 239; refine (fits_s4 _ _ (by have := HLS.out; omega)).mono ?_; rintro e w' ⟨rfl, rfl⟩)
            go_ret3
            refine ⟨?_, rfl⟩
            rw [HA.out]
            exact ret3 HV.out (by first | rfl | omega) rfl
          · have hfit : fit4 (lastB ds).toNat = false := by unfold fit4; exact decide_eq_false hf
            have hrd : rdS 32 ds = none := by
              unfold rdS
              refine if_neg ?_
              have h1 := HRU.out
              rw [HE.out, ← HD.out, ← HLB.out] at h1
              exact fun hx => hf (h1.1 hx)
            have HA := Lib.hid (HR.out _ rfl)
            rw [hrd] at HA
            clear hrd hf
            go_enter Tryz.func210, Tryz.ntmps210
            go_wp2_with first | (go_at_call 238; refine (raw_some s at_ 5 _ ds HS.out h0 h1 (by decide) (by decide) H.out).mono ?_; rintro e w' ⟨rfl, rfl⟩) | (go_at_call 239; refine (fits_s4 _ _ (by have := HLS.out; omega)).mono ?_; rintro e w' ⟨rfl, rfl⟩)
            go_ret3
            refine ⟨?_, rfl⟩
            rw [HA.out]
            rfl
        · have hq1 : ((ds.length : Int) == 5) = false := by simp; omega
          have hsh : 7 * (ds.length : Int) < 64 := by omega
          have hrd : rdS 32 ds = some (sval ds) := by
            unfold rdS
            refine if_pos ?_
            have h1 := short_s ini last hlast
            rw [← HD.out] at h1
            have : (2 : Int) ^ (7 * ini.length + 6) ≤ 2 ^ 31 := by exact_mod_cast Nat.pow_le_pow_right (show 0 < 2 by decide) (show 7 * ini.length + 6 ≤ 31 by have := HDL.out; omega)
            omega
          have HV := Lib.hid (i32_pos ds _ hrd (by omega) HG.out)
          have HA := Lib.hid (HR.out _ rfl)
          rw [hrd] at HA
          clear hrd hq
          go_enter Tryz.func210, Tryz.ntmps210
          go_wp2_with first | (go_at_call 238; refine (raw_some s at_ 5 _ ds HS.out h0 h1 (by decide) (by decide) H.out).mono ?_; rintro e w' ⟨rfl, rfl⟩) | (go_at_call 239; refine (fits_s4 _ _ (by have := HLS.out; omega)).mono ?_; rintro e w' ⟨rfl, rfl⟩)
          go_ret3
          refine ⟨?_, rfl⟩
          rw [HA.out]
          exact ret3 HV.out (by first | rfl | omega) rfl

/-! ### int64 -/
set_option maxRecDepth 100000 in
set_option maxHeartbeats 400000 in
theorem take_i64 (s : ByteArray) (at_ : Int) (w : World) (hs : s.size ≤ maxLen) :
    Calls Tryz.prog 209 #[.string s, .int .i64 at_, .int .i64 64, .bool true] w fun e w' =>
      e = .returned (.tuple #[.int .i64 (ansS 64 s.data.toList at_).1, .int .i64 (ansS 64 s.data.toList at_).2.1, .int .i64 (ansS 64 s.data.toList at_).2.2]) ∧ w = w' := by
  have hsz : (s.data.toList.length : Int) = s.size := rfl
  by_cases hout : at_ < 0 ∨ (s.size : Int) < at_
  · have HA := Lib.hid (show ansS 64 s.data.toList at_ = (0, 0, 1) by unfold ansS; rw [if_pos (by rw [hsz]; exact hout)])
    have HO := Lib.hid hout
    clear hout hs hsz
    go_enter Tryz.func209, Tryz.ntmps209
    go_wp2_with (go_at_call 238; refine (raw_out s at_ _ _ HO.out).mono ?_; rintro e w' ⟨rfl, rfl⟩)
    go_ret3
    refine ⟨?_, rfl⟩
    rw [HA.out]
    rfl
  · have h0 : 0 ≤ at_ := by omega
    have h1 : at_ ≤ s.size := by omega
    have HC := Lib.hid (show ¬ (at_ < 0 ∨ (s.data.toList.length : Int) < at_) by rw [hsz]; exact hout)
    have HS := Lib.hid hs
    clear hout hs hsz
    cases hsc : scan 10 (s.data.toList.drop at_.toNat) with
    | none =>
      have HA := Lib.hid (show ansS 64 s.data.toList at_ = (0, 0, 2) by unfold ansS readS; rw [if_neg HC.out]; simp [hsc])
      have H := Lib.hid hsc
      clear hsc
      go_enter Tryz.func209, Tryz.ntmps209
      go_wp2_with (go_at_call 238; refine (raw_none s at_ 10 _ HS.out h0 h1 (by decide) (by decide) H.out).mono ?_; rintro e w' ⟨rfl, rfl⟩)
      go_ret3
      refine ⟨?_, rfl⟩
      rw [HA.out]
      rfl
    | some ds =>
      obtain ⟨hl1, hl2, hl3⟩ := scan_len hsc
      have hb : at_ + ds.length ≤ s.size := by
        have e : (s.data.toList.drop at_.toNat).length = s.size - at_.toNat := by rw [List.length_drop]; rfl
        omega
      have hm : (s.size : Int) ≤ 9223372036854775807 := by have := HS.out; unfold maxLen at this; omega
      obtain ⟨ini, last, rest, hds, _, hlast, _, _⟩ := scan_some hsc
      have hlb : lastB ds = last := by rw [hds, lastB_snoc]
      have hdl : ds.length = ini.length + 1 := by rw [hds]; simp
      have HR := Lib.hid (show ∀ x, (match rdS 64 ds with | none => (0, 0, 2) | some v => (v, at_ + ds.length, 0)) = x → ansS 64 s.data.toList at_ = x by
        rintro x rfl
        unfold ansS readS
        rw [if_neg HC.out]
        simp only [hsc]
        cases rdS 64 ds <;> rfl)
      have H := Lib.hid hsc
      clear hsc
      have hL : (lastB ds).toNat < 128 := by rw [hlb]; exact hlast
      have HRU := Lib.hid (room_s ini last hlast 0)
      have HD := Lib.hid hds
      have HLB := Lib.hid hlb
      have HDL := Lib.hid hdl
      have HLS := Lib.hid hL
      clear hds hlb hdl hL
      by_cases hg : 64 ≤ (lastB ds).toNat
      · have hand : bits .and .u8 ((lastB ds).toNat : Int) 64 = 64 := and64_yes _ hg HLS.out
        have HG := Lib.hid hg
        clear hg
        by_cases hq : ds.length = 10
        · have hq1 : ((ds.length : Int) == 10) = true := by simp; omega
          have hsh : 7 * (ds.length : Int) ≥ 64 := by omega
          have HQ := Lib.hid hq
          clear hq
          have HE := Lib.hid (show 7 * ini.length + 0 = 63 by have := HQ.out; have := HDL.out; omega)
          by_cases hf : -(2 ^ 0) ≤ s7 (lastB ds).toNat ∧ s7 (lastB ds).toNat < 2 ^ 0
          · have hfit : fit1 (lastB ds).toNat = true := by unfold fit1; exact decide_eq_true hf
            have hrd : rdS 64 ds = some (sval ds) := by
              unfold rdS
              refine if_pos ?_
              have h1 := HRU.out
              rw [HE.out, ← HD.out, ← HLB.out] at h1
              exact h1.2 hf
            have HV := Lib.hid (i64_neg ds _ hrd (by have := HQ.out; omega) HG.out HLS.out)
            have HA := Lib.hid (HR.out _ rfl)
            rw [hrd] at HA
            clear hrd hf
            go_enter Tryz.func209, Tryz.ntmps209
            go_wp2_with first | (go_at_call 238; refine (raw_some s at_ 10 _ ds HS.out h0 h1 (by decide) (by decide) H.out).mono ?_; rintro e w' ⟨rfl, rfl⟩) | (go_at_call 239; refine (fits_s1 _ _ (by have := HLS.out; omega)).mono ?_; rintro e w' ⟨rfl, rfl⟩)
            go_ret3
            refine ⟨?_, rfl⟩
            rw [HA.out]
            exact ret3 HV.out (by first | rfl | omega) rfl
          · have hfit : fit1 (lastB ds).toNat = false := by unfold fit1; exact decide_eq_false hf
            have hrd : rdS 64 ds = none := by
              unfold rdS
              refine if_neg ?_
              have h1 := HRU.out
              rw [HE.out, ← HD.out, ← HLB.out] at h1
              exact fun hx => hf (h1.1 hx)
            have HA := Lib.hid (HR.out _ rfl)
            rw [hrd] at HA
            clear hrd hf
            go_enter Tryz.func209, Tryz.ntmps209
            go_wp2_with first | (go_at_call 238; refine (raw_some s at_ 10 _ ds HS.out h0 h1 (by decide) (by decide) H.out).mono ?_; rintro e w' ⟨rfl, rfl⟩) | (go_at_call 239; refine (fits_s1 _ _ (by have := HLS.out; omega)).mono ?_; rintro e w' ⟨rfl, rfl⟩)
            go_ret3
            refine ⟨?_, rfl⟩
            rw [HA.out]
            rfl
        · have hq1 : ((ds.length : Int) == 10) = false := by simp; omega
          have hsh : 7 * (ds.length : Int) < 64 := by omega
          have hrd : rdS 64 ds = some (sval ds) := by
            unfold rdS
            refine if_pos ?_
            have h1 := short_s ini last hlast
            rw [← HD.out] at h1
            have : (2 : Int) ^ (7 * ini.length + 6) ≤ 2 ^ 63 := by exact_mod_cast Nat.pow_le_pow_right (show 0 < 2 by decide) (show 7 * ini.length + 6 ≤ 63 by have := HDL.out; omega)
            omega
          have HV := Lib.hid (i64_neg9 ds _ hrd (by omega) HG.out HLS.out)
          have HA := Lib.hid (HR.out _ rfl)
          rw [hrd] at HA
          clear hrd hq
          go_enter Tryz.func209, Tryz.ntmps209
          go_wp2_with first | (go_at_call 238; refine (raw_some s at_ 10 _ ds HS.out h0 h1 (by decide) (by decide) H.out).mono ?_; rintro e w' ⟨rfl, rfl⟩) | (go_at_call 239; refine (fits_s1 _ _ (by have := HLS.out; omega)).mono ?_; rintro e w' ⟨rfl, rfl⟩)
          go_ret3
          refine ⟨?_, rfl⟩
          rw [HA.out]
          exact ret3 HV.out (by first | rfl | omega) rfl
      · replace hg : (lastB ds).toNat < 64 := by omega
        have hand : bits .and .u8 ((lastB ds).toNat : Int) 64 = 0 := and64_no _ hg
        have HG := Lib.hid hg
        clear hg
        by_cases hq : ds.length = 10
        · have hq1 : ((ds.length : Int) == 10) = true := by simp; omega
          have hsh : 7 * (ds.length : Int) ≥ 64 := by omega
          have HQ := Lib.hid hq
          clear hq
          have HE := Lib.hid (show 7 * ini.length + 0 = 63 by have := HQ.out; have := HDL.out; omega)
          by_cases hf : -(2 ^ 0) ≤ s7 (lastB ds).toNat ∧ s7 (lastB ds).toNat < 2 ^ 0
          · have hfit : fit1 (lastB ds).toNat = true := by unfold fit1; exact decide_eq_true hf
            have hrd : rdS 64 ds = some (sval ds) := by
              unfold rdS
              refine if_pos ?_
              have h1 := HRU.out
              rw [HE.out, ← HD.out, ← HLB.out] at h1
              exact h1.2 hf
            have HV := Lib.hid (i64_pos ds _ hrd (by have := HQ.out; omega) HG.out)
            have HA := Lib.hid (HR.out _ rfl)
            rw [hrd] at HA
            clear hrd hf
            go_enter Tryz.func209, Tryz.ntmps209
            go_wp2_with first | (go_at_call 238; refine (raw_some s at_ 10 _ ds HS.out h0 h1 (by decide) (by decide) H.out).mono ?_; rintro e w' ⟨rfl, rfl⟩) | (go_at_call 239; refine (fits_s1 _ _ (by have := HLS.out; omega)).mono ?_; rintro e w' ⟨rfl, rfl⟩)
            go_ret3
            refine ⟨?_, rfl⟩
            rw [HA.out]
            exact ret3 HV.out (by first | rfl | omega) rfl
          · have hfit : fit1 (lastB ds).toNat = false := by unfold fit1; exact decide_eq_false hf
            have hrd : rdS 64 ds = none := by
              unfold rdS
              refine if_neg ?_
              have h1 := HRU.out
              rw [HE.out, ← HD.out, ← HLB.out] at h1
              exact fun hx => hf (h1.1 hx)
            have HA := Lib.hid (HR.out _ rfl)
            rw [hrd] at HA
            clear hrd hf
            go_enter Tryz.func209, Tryz.ntmps209
            go_wp2_with first | (go_at_call 238; refine (raw_some s at_ 10 _ ds HS.out h0 h1 (by decide) (by decide) H.out).mono ?_; rintro e w' ⟨rfl, rfl⟩) | (go_at_call 239; refine (fits_s1 _ _ (by have := HLS.out; omega)).mono ?_; rintro e w' ⟨rfl, rfl⟩)
            go_ret3
            refine ⟨?_, rfl⟩
            rw [HA.out]
            rfl
        · have hq1 : ((ds.length : Int) == 10) = false := by simp; omega
          have hsh : 7 * (ds.length : Int) < 64 := by omega
          have hrd : rdS 64 ds = some (sval ds) := by
            unfold rdS
            refine if_pos ?_
            have h1 := short_s ini last hlast
            rw [← HD.out] at h1
            have : (2 : Int) ^ (7 * ini.length + 6) ≤ 2 ^ 63 := by exact_mod_cast Nat.pow_le_pow_right (show 0 < 2 by decide) (show 7 * ini.length + 6 ≤ 63 by have := HDL.out; omega)
            omega
          have HV := Lib.hid (i64_pos ds _ hrd (by omega) HG.out)
          have HA := Lib.hid (HR.out _ rfl)
          rw [hrd] at HA
          clear hrd hq
          go_enter Tryz.func209, Tryz.ntmps209
          go_wp2_with first | (go_at_call 238; refine (raw_some s at_ 10 _ ds HS.out h0 h1 (by decide) (by decide) H.out).mono ?_; rintro e w' ⟨rfl, rfl⟩) | (go_at_call 239; refine (fits_s1 _ _ (by have := HLS.out; omega)).mono ?_; rintro e w' ⟨rfl, rfl⟩)
          go_ret3
          refine ⟨?_, rfl⟩
          rw [HA.out]
          exact ret3 HV.out (by first | rfl | omega) rfl

set_option maxHeartbeats 400000 in
theorem U32_any (s : ByteArray) (at_ : Int) (w : World) (hs : s.size ≤ maxLen) :
    Calls Tryz.prog 207 #[.string s, .int .i64 at_] w fun e w' =>
      e = .returned (.tuple #[.int .u32 (ansU 32 s.data.toList at_).1, .int .i64 (ansU 32 s.data.toList at_).2.1, .int .i64 (ansU 32 s.data.toList at_).2.2]) ∧ w = w' := by
  have HS := Lib.hid hs
  clear hs
  go_enter Tryz.func207, Tryz.ntmps207
  go_wp2_with (go_at_call 235; refine (take_u32 _ _ _ HS.out).mono ?_; rintro e w' ⟨rfl, rfl⟩)
  go_ret3
  exact ⟨rfl, rfl⟩

set_option maxHeartbeats 400000 in
theorem S32_any (s : ByteArray) (at_ : Int) (w : World) (hs : s.size ≤ maxLen) :
    Calls Tryz.prog 161 #[.string s, .int .i64 at_] w fun e w' =>
      e = .returned (.tuple #[.int .i32 (ansS 32 s.data.toList at_).1, .int .i64 (ansS 32 s.data.toList at_).2.1, .int .i64 (ansS 32 s.data.toList at_).2.2]) ∧ w = w' := by
  have HS := Lib.hid hs
  clear hs
  go_enter Tryz.func161, Tryz.ntmps161
  go_wp2_with (go_at_call 210; refine (take_i32 _ _ _ HS.out).mono ?_; rintro e w' ⟨rfl, rfl⟩)
  go_ret3
  exact ⟨rfl, rfl⟩

set_option maxHeartbeats 400000 in
theorem S64_any (s : ByteArray) (at_ : Int) (w : World) (hs : s.size ≤ maxLen) :
    Calls Tryz.prog 159 #[.string s, .int .i64 at_] w fun e w' =>
      e = .returned (.tuple #[.int .i64 (ansS 64 s.data.toList at_).1, .int .i64 (ansS 64 s.data.toList at_).2.1, .int .i64 (ansS 64 s.data.toList at_).2.2]) ∧ w = w' := by
  have HS := Lib.hid hs
  clear hs
  go_enter Tryz.func159, Tryz.ntmps159
  go_wp2_with (go_at_call 209; refine (take_i64 _ _ _ HS.out).mono ?_; rintro e w' ⟨rfl, rfl⟩)
  go_ret3
  exact ⟨rfl, rfl⟩
end Go.Proofs.YteidhccnbfikcaaGreatDoor.Leb
