/-
  The law of texts: the walk. No condition beyond what each theorem names.
-/
import Derived.Test.YtafnjkeljjeamaaDoorValLawsPl
import Derived.Test.YtafnjkeljjeamaaDoorValWk2
import Derived.Test.YtafnjkeljjeamaaDoorValN
namespace Go.Proofs.YtafnjkeljjeamaaDoor.Val
open Go.RowKit Go.Maps Go.Lib
set_option linter.unusedVariables false
set_option linter.unusedSimpArgs false
def TK (a t : Value) (X : ByteArray) : Prop := ∀ W, VEnv W → Calls Tryd.prog 20 #[a, t] W fun e w' => e = .returned (.tuple #[.string X, .bool true]) ∧ Below W.heap.size W w'

set_option maxRecDepth 100000 in
set_option maxHeartbeats 4000000 in
theorem texts_core (a b : Int) (S T : ByteArray) (s : UInt8) (kt st : Int) (X Y P Q S1 T1 : ByteArray) (c1 c2 z0 : Bool) (hS : S.extract 0 (min (S.size : Int) 60).toNat = S1) (hT : T.extract 0 (min (T.size : Int) 60).toNat = T1) (e1 : (X.toList == Y.toList) = c1) (e2 : (a == b) = c1) (e3 : (P.toList == Q.toList) = c2) (e4 : (S1.toList == T1.toList) = c2) (hl : decide ((X.size : Int) < 1 + st) = false) (hz : (st == 0) = z0) (s0 : 0 ≤ st) (s9 : st ≤ 9) (hj : z0 = false → ∃ J : Nat, wrap64 (wrap64 ((X.size : Int) - st) - 1) = (J : Int) ∧ ∃ h : J < X.size, X[J] = 46) (w : World) (hE : VEnv w) (n1 : NumK s kt st)
    (t1 : TK (.agg #[.bool false, .int .i64 a, .string ⟨#[]⟩]) (.agg #[.int .i64 kt, .int .i64 st]) X) (t2 : TK (.agg #[.bool false, .int .i64 b, .string ⟨#[]⟩]) (.agg #[.int .i64 kt, .int .i64 st]) Y)
    (t3 : TK (.agg #[.bool false, .int .i64 0, .string S1]) (.agg #[.int .i64 3, .int .i64 0]) P) (t4 : TK (.agg #[.bool false, .int .i64 0, .string T1]) (.agg #[.int .i64 3, .int .i64 0]) Q) : Calls Tryd.prog 4 #[.int .i64 a, .int .i64 b, .string S, .string T, .int .u8 (s.toNat : Int)] w (BoolS w true) := by
  have HE := Lib.hid hE
  have N1 := Lib.hid n1
  have T1 := Lib.hid t1
  have T2 := Lib.hid t2
  have T3 := Lib.hid t3
  have T4 := Lib.hid t4
  have HJ := Lib.hid hj
  clear hE n1 t1 t2 t3 t4 hj
  go_enter Tryd.func4, Tryd.ntmps4
  go_wp2_with fail
  refine (examples10 _ HE.out).mono ?_
  rintro e w1 ⟨rfl, c⟩
  have C := Lib.hid c
  clear c
  go_wp2_with fail
  refine (N1.out _).mono ?_
  rintro e w2 ⟨rfl, c⟩
  replace C := Lib.hid (bj C.out c)
  clear c
  have qt_0 : (w2.alloc (.cells #[.int .i64 kt, .int .i64 st] 23)).cell? ⟨w2.heap.size, 0, none⟩ = some (.int .i64 kt) := World.cell?_alloc_at _ _ _ _ (rfl)
  have qt_1 : (w2.alloc (.cells #[.int .i64 kt, .int .i64 st] 23)).cell? ⟨w2.heap.size, 1, none⟩ = some (.int .i64 st) := World.cell?_alloc_at _ _ _ _ (rfl)
  replace C := Lib.hid (ba C.out (.cells #[.int .i64 kt, .int .i64 st] 23))
  go_wp2_with fail
  refine (T1.out _ (HE.out.later C.out)).mono ?_
  rintro e w3 ⟨rfl, c⟩
  replace qt_0 : w3.cell? ⟨w2.heap.size, 0, none⟩ = some (.int .i64 kt) := cell_later c qt_0
  replace qt_1 : w3.cell? ⟨w2.heap.size, 1, none⟩ = some (.int .i64 st) := cell_later c qt_1
  have lt : w2.heap.size < w3.heap.size := World.block_lt_of_cell? _ _ qt_0
  replace C := Lib.hid (bj C.out c)
  clear c
  go_wp2_with fail
  refine (T2.out _ (HE.out.later C.out)).mono ?_
  rintro e w4 ⟨rfl, c⟩
  replace qt_0 : w4.cell? ⟨w2.heap.size, 0, none⟩ = some (.int .i64 kt) := cell_later c qt_0
  replace qt_1 : w4.cell? ⟨w2.heap.size, 1, none⟩ = some (.int .i64 st) := cell_later c qt_1
  clear lt
  have lt : w2.heap.size < w4.heap.size := World.block_lt_of_cell? _ _ qt_0
  replace C := Lib.hid (bj C.out c)
  clear c
  go_wp2_with fail
  refine (T3.out _ (HE.out.later C.out)).mono ?_
  rintro e w5 ⟨rfl, c⟩
  replace qt_0 : w5.cell? ⟨w2.heap.size, 0, none⟩ = some (.int .i64 kt) := cell_later c qt_0
  replace qt_1 : w5.cell? ⟨w2.heap.size, 1, none⟩ = some (.int .i64 st) := cell_later c qt_1
  clear lt
  have lt : w2.heap.size < w5.heap.size := World.block_lt_of_cell? _ _ qt_0
  replace C := Lib.hid (bj C.out c)
  clear c
  go_wp2_with fail
  refine (T4.out _ (HE.out.later C.out)).mono ?_
  rintro e w6 ⟨rfl, c⟩
  replace qt_0 : w6.cell? ⟨w2.heap.size, 0, none⟩ = some (.int .i64 kt) := cell_later c qt_0
  replace qt_1 : w6.cell? ⟨w2.heap.size, 1, none⟩ = some (.int .i64 st) := cell_later c qt_1
  clear lt
  have lt : w2.heap.size < w6.heap.size := World.block_lt_of_cell? _ _ qt_0
  replace C := Lib.hid (bj C.out c)
  clear c
  go_wp2_with fail
  · go_ret
    exact ⟨rfl, C.out⟩
  · obtain ⟨J, hJ, hlt, hv⟩ := HJ.out (by simpa using ‹¬(z0 = true)›)
    simp only [hJ, Int.toNat_natCast, hv]
    go_ret
    exact ⟨rfl, C.out⟩
  · obtain ⟨J, hJ, hlt, hv⟩ := HJ.out (by simpa using ‹¬(z0 = true)›)
    exact absurd (by rw [hJ]; omega) ‹¬(0 ≤ wrap64 (wrap64 ((X.size : Int) - st) - 1) ∧ wrap64 (wrap64 ((X.size : Int) - st) - 1) < (X.size : Int))›
theorem nd_le : ∀ (k u : Nat), u < 10 ^ (k + 1) → nDigits u ≤ k + 1
  | 0, u, h => by rw [nDigits_small (by simpa using h)]; exact Nat.le_refl _
  | k + 1, u, h => by
    by_cases h1 : u < 10
    · rw [nDigits_small h1]; omega
    · have := nd_le k (u / 10) (by rw [Nat.pow_succ] at h; omega)
      rw [nDigits_big h1]
      omega
theorem decT_short (n : Int) (k : Nat) (hn : I64 n) (hk : k ≤ 9) : (decT n k).length < 1000 := by
  have h1 : (decDigits n.natAbs).length ≤ 19 := by
    rw [decDigits_length]
    exact nd_le 18 _ (by unfold I64 at hn; omega)
  have h0 := digits_len n.natAbs (k + 1)
  have h2 : (digitsL n.natAbs (k + 1)).length ≤ 100 := by
    unfold digitsL
    rw [List.length_append, List.length_replicate]
    omega
  unfold decT signL
  split
  · rw [List.length_cons, point_len _ _ (by omega)]; split <;> omega
  · rw [point_len _ _ (by omega)]; split <;> omega
theorem bytes_of (l : List UInt8) : (⟨l.toArray⟩ : ByteArray).toList = l := by rw [ByteArray.toList_eq]
theorem cut_size (S : ByteArray) : (S.extract 0 (min (S.size : Int) 60).toNat).size ≤ 200 := by
  rw [ByteArray.size_extract]
  omega
theorem texts_walk (a b : Int) (S T : ByteArray) (s : UInt8) (ha : I64 a) (hb : I64 b) (w : World) (hE : VEnv w) : Calls Tryd.prog 4 #[.int .i64 a, .int .i64 b, .string S, .string T, .int .u8 (s.toNat : Int)] w (BoolS w true) := by
  have s0 : (0 : Int) ≤ ((s.toNat % 10 : Nat) : Int) := Int.natCast_nonneg _
  have s9 : ((s.toNat % 10 : Nat) : Int) ≤ 9 := by omega
  have n1 : NumK s _ _ := fun W => number_any s W
  rw [scale_typed] at n1
  obtain ⟨k, hk⟩ : ∃ k : Nat, s.toNat % 10 = k := ⟨_, rfl⟩
  rw [hk] at n1 s0 s9
  have hk9 : k ≤ 9 := by omega
  obtain ⟨S1, hS⟩ : ∃ S1, S.extract 0 (min (S.size : Int) 60).toNat = S1 := ⟨_, rfl⟩
  obtain ⟨T1, hT⟩ : ∃ T1, T.extract 0 (min (T.size : Int) 60).toNat = T1 := ⟨_, rfl⟩
  have hS2 : S1.size ≤ 200 := by rw [← hS]; exact cut_size S
  have hT2 : T1.size ≤ 200 := by rw [← hT]; exact cut_size T
  have t1 : TK (.agg #[.bool false, .int .i64 a, .string ⟨#[]⟩]) (.agg #[.int .i64 (typed (k : Int)).kind, .int .i64 (k : Int)]) ⟨(decT a k).toArray⟩ := fun W h => by
    have := text_any (numVa a) (typed (k : Int)) ha W h _ (text_typed s0 s9 a)
    rw [scale_typed] at this
    exact this
  have t2 : TK (.agg #[.bool false, .int .i64 b, .string ⟨#[]⟩]) (.agg #[.int .i64 (typed (k : Int)).kind, .int .i64 (k : Int)]) ⟨(decT b k).toArray⟩ := fun W h => by
    have := text_any (numVa b) (typed (k : Int)) hb W h _ (text_typed s0 s9 b)
    rw [scale_typed] at this
    exact this
  have zero : I64 0 := by unfold I64; decide
  have t3 : TK (.agg #[.bool false, .int .i64 0, .string S1]) (.agg #[.int .i64 3, .int .i64 0]) _ := fun W h => text_any ⟨false, 0, S1⟩ ⟨3, 0⟩ zero W h _ (text_quote S1 hS2)
  have t4 : TK (.agg #[.bool false, .int .i64 0, .string T1]) (.agg #[.int .i64 3, .int .i64 0]) _ := fun W h => text_any ⟨false, 0, T1⟩ ⟨3, 0⟩ zero W h _ (text_quote T1 hT2)
  have hlen := decT_len a k
  have hsz : (⟨(decT a k).toArray⟩ : ByteArray).size = (decT a k).length := by simp [ByteArray.size]
  have hsh := decT_short a k ha hk9
  refine texts_core a b S T s _ (k : Int) _ _ _ _ S1 T1 (a == b) (S1.toList == T1.toList) ((k : Int) == 0) hS hT ?_ rfl ?_ rfl ?_ rfl s0 s9 ?_ w hE n1 t1 t2 t3 t4
  · rw [bytes_of, bytes_of]
    by_cases h : a = b
    · subst h; simp
    · rw [beq_false_of_ne h, beq_false_of_ne]
      exact fun e => h (decT_inj e)
  · rw [show (textOut (some (39 :: (quoteL S1.data.toList ++ [39])))).1.toList = 39 :: (quoteL S1.data.toList ++ [39]) from bytes_of _, show (textOut (some (39 :: (quoteL T1.data.toList ++ [39])))).1.toList = 39 :: (quoteL T1.data.toList ++ [39]) from bytes_of _, ByteArray.toList_eq, ByteArray.toList_eq]
    by_cases h : S1.data.toList = T1.data.toList
    · rw [h]; simp
    · rw [beq_false_of_ne h, beq_false_of_ne]
      exact fun e => h ((quote_iff _ _).1 e)
  · rw [hsz]
    exact decide_eq_false (by omega)
  · intro hz
    have hk0 : 0 < k := by
      have : ¬ ((k : Int) = 0) := by simpa using hz
      omega
    obtain ⟨p1, p2⟩ := decT_point a k hk0
    refine ⟨(decT a k).length - k - 1, ?_, by rw [hsz]; omega, ?_⟩
    · rw [hsz]
      unfold wrap64
      omega
    · obtain ⟨hlt, hv⟩ := List.getElem?_eq_some_iff.1 p2
      show (decT a k).toArray[(decT a k).length - k - 1] = 46
      rw [List.getElem_toArray]
      exact hv
end Go.Proofs.YtafnjkeljjeamaaDoor.Val
