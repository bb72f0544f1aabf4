/-
  The walk of LebLong: it answers true. No condition beyond what the theorem names.
-/
import Derived.Test.YtckigiemeimheaaLebPlaces
namespace Go.Proofs.Ytckigiemeimheaa.Leb
open Go.RowKit Go.Proofs.Ytckigiemeimheaa.Bytes
set_option linter.unusedVariables false

/-- a number of seven bits, written longer than it need be -/
def longL (x k : Nat) : List UInt8 := UInt8.ofNat (x % 128 + 128) :: (List.replicate k 128 ++ [0])

theorem val_zeros (k : Nat) : val (List.replicate k 128 ++ [0]) = 0 := by
  induction k with
  | zero => rfl
  | succ k ih => simp only [List.replicate_succ, List.cons_append, val, ih]; rfl
theorem longL_len (x k : Nat) : (longL x k).length = k + 2 := by simp [longL]
theorem longL_val (x k : Nat) : val (longL x k) = x % 128 := by
  simp only [longL, val, val_zeros]
  rw [toNat_ofNat (by omega)]
  omega
theorem longL_scan (x k m : Nat) : scan m (longL x k) = if k + 2 ≤ m then some (longL x k) else none := by
  have h1 : ∀ b ∈ (UInt8.ofNat (x % 128 + 128) :: List.replicate k 128), 128 ≤ b.toNat := by
    intro b hb
    rcases List.mem_cons.1 hb with rfl | hb
    · rw [toNat_ofNat (by omega)]; omega
    · have := List.eq_of_mem_replicate hb
      subst this
      decide
  have e : longL x k = (UInt8.ofNat (x % 128 + 128) :: List.replicate k 128) ++ 0 :: [] := by simp [longL]
  have hl : (UInt8.ofNat (x % 128 + 128) :: List.replicate k (128 : UInt8)).length = k + 1 := by simp
  split
  · rw [e, scan_of h1 (by decide) (by rw [hl]; omega)]
  · rw [e, scan_none_of h1 (.inl (by rw [hl]; omega))]

theorem longL_u (x k bits : Nat) (hb : 7 ≤ bits) : ansU bits (longL x k) 0 = if k + 2 ≤ (bits + 6) / 7 then (((x % 128 : Nat) : Int), ((k + 2 : Nat) : Int), 0) else (0, 0, 2) := by
  have h := ansU_at bits [] (longL x k) 0 rfl
  rw [List.nil_append] at h
  rw [h]
  unfold readU
  rw [longL_scan]
  by_cases hc : k + 2 ≤ (bits + 6) / 7
  · have : x % 128 < 2 ^ bits := Nat.lt_of_lt_of_le (Nat.mod_lt _ (by decide)) (show 128 ≤ 2 ^ bits from Nat.pow_le_pow_right (n := 2) (by decide) hb)
    rw [if_pos hc, if_pos hc]
    simp only [rdU, longL_val, if_pos this, Option.map_some, longL_len]
    simp
  · rw [if_neg hc, if_neg hc]

theorem u32_long (S : ByteArray) (x k : Nat) (w : World) (hS : S.data.toList = longL x k) (hk : k ≤ 100) :
    Calls Try.prog 18 #[.string S, .int .i64 0] w fun e w' => (e = .returned (if k ≤ 3 then .tuple #[.int .u32 ((x : Int) % 128), .int .i64 ((k : Int) + 2), .int .i64 0] else .tuple #[.int .u32 0, .int .i64 0, .int .i64 2])) ∧ w = w' := by
  have hl : S.data.toList.length = S.size := rfl
  refine (U32_any S 0 w (by rw [← hl, hS, longL_len]; unfold maxLen; omega)).mono ?_
  rintro e w' ⟨rfl, rfl⟩
  rw [hS, longL_u x k 32 (by decide)]
  by_cases hc : k ≤ 3
  · rw [if_pos hc, if_pos (by omega)]
    exact ⟨by simp, rfl⟩
  · rw [if_neg hc, if_neg (by omega)]
    exact ⟨rfl, rfl⟩
theorem u64_long (S : ByteArray) (x k : Nat) (w : World) (hS : S.data.toList = longL x k) (hk : k ≤ 100) :
    Calls Try.prog 16 #[.string S, .int .i64 0] w fun e w' => (e = .returned (if k ≤ 8 then .tuple #[.int .u64 ((x : Int) % 128), .int .i64 ((k : Int) + 2), .int .i64 0] else .tuple #[.int .u64 0, .int .i64 0, .int .i64 2])) ∧ w = w' := by
  have hl : S.data.toList.length = S.size := rfl
  refine (U64_any S 0 w (by rw [← hl, hS, longL_len]; unfold maxLen; omega)).mono ?_
  rintro e w' ⟨rfl, rfl⟩
  rw [hS, longL_u x k 64 (by decide)]
  by_cases hc : k ≤ 8
  · rw [if_pos hc, if_pos (by omega)]
    exact ⟨by simp, rfl⟩
  · rw [if_neg hc, if_neg (by omega)]
    exact ⟨rfl, rfl⟩

/-- the bytes so far -/
def soFar (x j : Nat) : List UInt8 := UInt8.ofNat (x % 128 + 128) :: List.replicate j 128
theorem soFar_step (x j : Nat) : (ByteArray.mk (soFar x j).toArray ++ ByteArray.mk #[128]) = ByteArray.mk (soFar x (j + 1)).toArray := by
  have h := ByteArray.mk_append_mk (soFar x j) [128]
  have e : soFar x j ++ [128] = soFar x (j + 1) := by
    simp only [soFar, List.cons_append]
    rw [← List.replicate_succ']
  rw [e] at h
  exact h
theorem soFar_end (x j : Nat) : (ByteArray.mk (soFar x j).toArray ++ ByteArray.mk #[0]).data.toList = longL x j := by
  have h := ByteArray.mk_append_mk (soFar x j) [0]
  have e : soFar x j ++ [0] = longL x j := rfl
  rw [e] at h
  show (ByteArray.mk (soFar x j).toArray ++ ByteArray.mk [0].toArray).data.toList = _
  rw [h]
theorem soFar_len (x j : Nat) : (soFar x j).length = j + 1 := by simp [soFar]

set_option maxRecDepth 100000 in
set_option maxHeartbeats 1000000 in
theorem long_walk (x k : Nat) (w : World) (hx : x < 256) (hk : k < 256) :
    Calls Try.prog 7 #[.int .u8 x, .int .u8 k] w fun e w' => e = .returned (.bool true) ∧ Below w.heap.size w w' := by
  obtain ⟨K, hK, hK2⟩ : ∃ K : Nat, K ≤ 11 ∧ (k : Int) % 12 = (K : Int) := ⟨k % 12, by omega, by omega⟩
  go_enter Try.func7, Try.ntmps7
  go_wp2_with fail
  refine (examples_any _).mono ?_
  rintro e w1 ⟨rfl, b1⟩
  have hown := World.ownsRow_lit (w := w1) (base := w1.heap.size) (e := 5) (size := 1) #[.int .u8 (bits .or .u8 ((x : Int) % 128) 128)] 1 (Nat.le_refl _) (by unfold maxLen; omega) rfl
  have hcell : [Value.int .u8 (bits .or .u8 ((x : Int) % 128) 128)] = cellsOf (soFar x 0) := by
    have hb := byte_or128 (x % 128) (by omega)
    have hc : ((x % 128 : Nat) : Int) = (x : Int) % 128 := by omega
    rw [hc] at hb
    simp only [soFar, List.replicate_zero, cellsOf_one]
    rw [hb, toNat_ofNat (by omega)]
    congr 3
    omega
  have hown2 : (w1.alloc (.cells #[.int .u8 (bits .or .u8 ((x : Int) % 128) 128)] 5)).ownsRow w1.heap.size 5 1 (.slice (some ⟨w1.heap.size, 0, none⟩) 1 1) 1 (cellsOf (soFar x 0)) := by rw [← hcell]; exact hown
  have hcv := run_convert_own (P := Try.prog) (src := 38) (dst := 9) Try.underlying38 Try.underlying5 Try.underlying9 hown2
  clear hown hown2 hcell
  go_wp2_with fail
  go_loop [7, 8] (fun s i => ∃ j : Nat, j ≤ K ∧ i = .int .i64 (1 + (j : Int)) ∧ s = .string ⟨(soFar x j).toArray⟩) (fun _ i => 12 - (intOf i).toNat)
  case atStart => exact ⟨0, by omega, rfl, rfl⟩
  case round =>
    obtain ⟨j, hj, rfl, rfl⟩ := hrel
    have hsz := soFar_len x j
    have HZ := Lib.hid hsz
    have hz : (soFar x j).length ≤ 12 := by omega
    clear hsz
    by_cases hlt : j < K
    · have h1 : (1 : Int) + (j : Int) < 1 + (K : Int) := by omega
      have HS := Lib.hid (soFar_step x j)
      go_wp2_with fail
      exact ⟨⟨j + 1, by omega, congrArg (Value.int .i64) (by omega), by rw [HS.out]⟩, by simp [intOf]; omega⟩
    · obtain rfl : j = K := by omega
      clear hlt hj
      by_cases h3 : j ≤ 3
      · have h8 : j ≤ 8 := by omega
        have hA := fun (S : ByteArray) (w : World) (hS : S.data.toList = longL x j) => u32_long S x j w hS (by omega)
        have hB := fun (S : ByteArray) (w : World) (hS : S.data.toList = longL x j) => u64_long S x j w hS (by omega)
        simp only [if_pos h3] at hA
        simp only [if_pos h8] at hB
        have HA := Lib.hid hA
        have HB := Lib.hid hB
        have t3 : decide (1 + (j : Int) ≤ 4) = true := decide_eq_true (by omega)
        have t8 : decide (1 + (j : Int) ≤ 9) = true := decide_eq_true (by omega)
        have t5 : ((j : Int) + 2 == (j : Int) + 1 + 1) = true := by rw [beq_iff_eq]; omega
        have hsz : (((soFar x j).length : Nat) : Int) = (j : Int) + 1 := by have := HZ.out; omega
        clear hA hB h3 h8
        go_wp2_with fail
        refine (HA.out _ _ (soFar_end x j)).mono ?_
        rintro e w2 ⟨rfl, rfl⟩
        go_wp2_with fail
        refine (HB.out _ _ (soFar_end x j)).mono ?_
        rintro e w2 ⟨rfl, rfl⟩
        go_wp2_with fail
        go_ret
        exact ⟨rfl, b1.alloc b1.size _⟩
      · by_cases h8 : j ≤ 8
        · skip
          have hA := fun (S : ByteArray) (w : World) (hS : S.data.toList = longL x j) => u32_long S x j w hS (by omega)
          have hB := fun (S : ByteArray) (w : World) (hS : S.data.toList = longL x j) => u64_long S x j w hS (by omega)
          simp only [if_neg h3] at hA
          simp only [if_pos h8] at hB
          have HA := Lib.hid hA
          have HB := Lib.hid hB
          have t3 : decide (1 + (j : Int) ≤ 4) = false := decide_eq_false (by omega)
          have t8 : decide (1 + (j : Int) ≤ 9) = true := decide_eq_true (by omega)
          have t5 : ((j : Int) + 2 == (j : Int) + 1 + 1) = true := by rw [beq_iff_eq]; omega
          have hsz : (((soFar x j).length : Nat) : Int) = (j : Int) + 1 := by have := HZ.out; omega
          clear hA hB h3 h8
          go_wp2_with fail
          refine (HA.out _ _ (soFar_end x j)).mono ?_
          rintro e w2 ⟨rfl, rfl⟩
          go_wp2_with fail
          refine (HB.out _ _ (soFar_end x j)).mono ?_
          rintro e w2 ⟨rfl, rfl⟩
          go_wp2_with fail
          go_ret
          exact ⟨rfl, b1.alloc b1.size _⟩
        · skip
          have hA := fun (S : ByteArray) (w : World) (hS : S.data.toList = longL x j) => u32_long S x j w hS (by omega)
          have hB := fun (S : ByteArray) (w : World) (hS : S.data.toList = longL x j) => u64_long S x j w hS (by omega)
          simp only [if_neg h3] at hA
          simp only [if_neg h8] at hB
          have HA := Lib.hid hA
          have HB := Lib.hid hB
          have t3 : decide (1 + (j : Int) ≤ 4) = false := decide_eq_false (by omega)
          have t8 : decide (1 + (j : Int) ≤ 9) = false := decide_eq_false (by omega)
          have t5 : ((j : Int) + 2 == (j : Int) + 1 + 1) = true := by rw [beq_iff_eq]; omega
          have hsz : (((soFar x j).length : Nat) : Int) = (j : Int) + 1 := by have := HZ.out; omega
          clear hA hB h3 h8
          go_wp2_with fail
          refine (HA.out _ _ (soFar_end x j)).mono ?_
          rintro e w2 ⟨rfl, rfl⟩
          go_wp2_with fail
          refine (HB.out _ _ (soFar_end x j)).mono ?_
          rintro e w2 ⟨rfl, rfl⟩
          go_wp2_with fail
          go_ret
          exact ⟨rfl, b1.alloc b1.size _⟩
end Go.Proofs.Ytckigiemeimheaa.Leb
