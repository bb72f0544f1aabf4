/-
  Text of chapter 10. No condition beyond what each theorem names.
-/
import Derived.Test.YtekpdcofjhdiiaaGreatDoorValO
import Derived.Test.YtekpdcofjhdiiaaGreatDoorValM
import Derived.Test.YtekpdcofjhdiiaaGreatDoorValQ
import Derived.Lib.ReplaceLaws
namespace Go.Proofs.YtekpdcofjhdiiaaGreatDoor.Val
open Go.RowKit Go.Maps Go.Lib
set_option linter.unusedVariables false
set_option linter.unusedSimpArgs false
/-- what the library's variables hold -/
def VEnv (w : World) : Prop := Lib.TabIs Tryz.prog w "internal/strconv.uint64pow10" .u64 Lib.pow10Tab ∧ ∃ m, w.cell? ⟨2, 0, none⟩ = some (.int .i64 m)
theorem VEnv.later {w w' : World} (h : VEnv w) (c : Below w.heap.size w w') : VEnv w' := by
  obtain ⟨h1, m, h2⟩ := h
  refine ⟨?_, m, cell_later c h2⟩
  unfold Lib.TabIs World.var? at *
  cases hg : Tryz.prog.globalNamed "internal/strconv.uint64pow10" with
  | none => simp [hg] at h1
  | some g =>
    simp only [hg, Option.bind_some] at h1 ⊢
    have hlt : g < w.heap.size := by
      rcases Nat.lt_or_ge g w.heap.size with h' | h'
      · exact h'
      · rw [Array.getElem?_eq_none h'] at h1; simp at h1
    rw [c.block g hlt]
    exact h1
def TxS (w : World) (o : Option (List UInt8)) (e : Ending) (w' : World) : Prop := e = .returned (.tuple #[.string (textOut o).1, .bool (textOut o).2]) ∧ Below w.heap.size w w'
theorem tx_some {w w' : World} {S : ByteArray} {l : List UInt8} (h : S.data.toList = l) (c : Below w.heap.size w w') : TxS w (some l) (.returned (.tuple #[.string S, .bool true])) w' := by
  subst h
  exact ⟨rfl, c⟩
set_option maxRecDepth 100000 in
set_option maxHeartbeats 1000000 in
theorem text_no (xn : Bool) (xv : Int) (xs : ByteArray) (k s : Int) (w : World) (h : fitsB ⟨k, s⟩ true ⟨xn, xv, xs⟩ = false) : Calls Tryz.prog 9 #[.agg #[.bool xn, .int .i64 xv, .string xs], .agg #[.int .i64 k, .int .i64 s]] w (TxS w none) := by
  have H := Lib.hid h
  clear h
  go_enter Tryz.func9, Tryz.ntmps9
  go_wp2_with fail
  refine (fits_any k s true xn xv xs _ _ H.out).mono ?_
  rintro e w1 ⟨rfl, c1⟩
  have C1 := Lib.hid ((below2 _ _ _).trans (c1.mono (by simp; omega)))
  clear c1
  go_wp2_with fail
  go_ret2
  exact ⟨rfl, C1.out⟩
set_option maxRecDepth 100000 in
set_option maxHeartbeats 1000000 in
theorem text_null (xv : Int) (xs : ByteArray) (k s : Int) (w : World) (h : fitsB ⟨k, s⟩ true ⟨true, xv, xs⟩ = true) : Calls Tryz.prog 9 #[.agg #[.bool true, .int .i64 xv, .string xs], .agg #[.int .i64 k, .int .i64 s]] w (TxS w (some [78, 85, 76, 76])) := by
  have H := Lib.hid h
  clear h
  go_enter Tryz.func9, Tryz.ntmps9
  go_wp2_with fail
  refine (fits_any k s true true xv xs _ _ H.out).mono ?_
  rintro e w1 ⟨rfl, c1⟩
  have C1 := Lib.hid ((below2 w (.cells #[.bool true, .int .i64 xv, .string xs] 23) (.cells #[.int .i64 k, .int .i64 s] 25)).trans (c1.mono (by simp; omega)))
  have q0 : w1.cell? ⟨w.heap.size, 0, none⟩ = some (.bool true) := cell_later c1 (by simp)
  clear c1
  go_wp2_with fail
  go_ret2
  exact tx_some (by rfl) C1.out
theorem upper_true : Lib.toUpperA (Lib.formatBool true) = [84, 82, 85, 69] := by decide +kernel
theorem upper_false : Lib.toUpperA (Lib.formatBool false) = [70, 65, 76, 83, 69] := by decide +kernel
theorem fb_ascii (b : Bool) : ∀ (j : Nat) (c : UInt8), (⟨(Lib.formatBool b).toArray⟩ : ByteArray).data.toList[j]? = some c → c.toNat < 128 := by
  intro j c h
  have hm := List.mem_of_getElem? h
  have key : ∀ b : Bool, ∀ c ∈ Lib.formatBool b, c.toNat < 128 := by decide +kernel
  exact key b c (by simpa using hm)
set_option maxRecDepth 100000 in
set_option maxHeartbeats 1000000 in
theorem text_bool (xv : Int) (xs : ByteArray) (s : Int) (w : World) (h : fitsB ⟨4, s⟩ true ⟨false, xv, xs⟩ = true) (b : Bool) (hb : (xv == 1) = b) : Calls Tryz.prog 9 #[.agg #[.bool false, .int .i64 xv, .string xs], .agg #[.int .i64 4, .int .i64 s]] w (TxS w (some (Lib.toUpperA (Lib.formatBool b)))) := by
  have H := Lib.hid h
  have HU := Lib.hid (fun W => Tryz.strings_ToUpper_ascii ⟨(Lib.formatBool b).toArray⟩ W (by cases b <;> decide +kernel) (fb_ascii b))
  obtain ⟨FB, hFB⟩ : ∃ FB : ByteArray, (⟨(Lib.formatBool b).toArray⟩ : ByteArray) = FB := ⟨_, rfl⟩
  have HF := Lib.hid hFB
  rw [hFB] at HU
  have hl : FB.data.toList = Lib.formatBool b := by rw [← hFB]
  rw [hl] at HU
  obtain ⟨UP, hUP⟩ : ∃ UP, Lib.toUpperA (Lib.formatBool b) = UP := ⟨_, rfl⟩
  rw [hUP] at HU ⊢
  clear h hFB hl hUP
  go_enter Tryz.func9, Tryz.ntmps9
  go_wp2_with fail
  refine (fits_any 4 s true false xv xs _ _ H.out).mono ?_
  rintro e w1 ⟨rfl, c1⟩
  have C1 := Lib.hid ((below2 w (.cells #[.bool false, .int .i64 xv, .string xs] 23) (.cells #[.int .i64 4, .int .i64 s] 25)).trans (c1.mono (by simp; omega)))
  have q0 : w1.cell? ⟨w.heap.size, 0, none⟩ = some (.bool false) := cell_later c1 (by simp)
  have q1 : w1.cell? ⟨w.heap.size, 1, none⟩ = some (.int .i64 xv) := cell_later c1 (by simp)
  have q3 : w1.cell? ⟨w.heap.size + 1, 0, none⟩ = some (.int .i64 4) := cell_later c1 (by simp)
  clear c1
  go_wp2_with fail
  refine (Tryz.strconv_FormatBool b _).mono ?_
  rintro e w' ⟨rfl, rfl⟩
  rw [HF.out]
  go_wp2_with fail
  refine (HU.out _).mono ?_
  rintro e w2 ⟨rfl, c2⟩
  have C2 := Lib.hid (C1.out.trans (c2.mono C1.out.size))
  clear c2
  go_wp2_with fail
  go_ret2
  exact tx_some (by simp) C2.out
theorem quote_len : ∀ l : List UInt8, (quoteL l).length ≤ 2 * l.length
  | [] => by simp [quoteL]
  | a :: l => by
    have := quote_len l
    rw [quote_cons, List.length_append]
    by_cases h : a = 39
    · rw [if_pos h]; simp; omega
    · rw [if_neg h]; simp; omega
theorem size_mk (l : List UInt8) : (⟨l.toArray⟩ : ByteArray).size = l.length := by show l.toArray.size = _; simp
set_option maxRecDepth 100000 in
set_option maxHeartbeats 1000000 in
theorem text_bytes (xv : Int) (xs : ByteArray) (s : Int) (w : World) (hE : VEnv w) (h : fitsB ⟨3, s⟩ true ⟨false, xv, xs⟩ = true) : Calls Tryz.prog 9 #[.agg #[.bool false, .int .i64 xv, .string xs], .agg #[.int .i64 3, .int .i64 s]] w (TxS w (some (39 :: (quoteL xs.data.toList ++ [39])))) := by
  have H := Lib.hid h
  have hz : xs.size ≤ 200 := by
    unfold fitsB at h
    simp only [Bool.false_eq_true, if_false, Bool.and_eq_true, decide_eq_true_eq] at h
    have := h.2
    simp at this
    exact this.2
  have hcb := Lib.countB_le ⟨#[39]⟩ (by decide) xs.size xs (Nat.le_refl _)
  have HR := Lib.hid (fun W m hm => Tryz.strings_ReplaceAll xs ⟨#[39]⟩ ⟨#[39, 39]⟩ m W (by omega) hm (by decide) (by show xs.size + Lib.countB xs ⟨#[39]⟩ * 2 ≤ _; omega))
  rw [show Lib.replaceAll xs.data.toList (⟨#[39]⟩ : ByteArray).data.toList (⟨#[39, 39]⟩ : ByteArray).data.toList = quoteL xs.data.toList from replaceAll_quote _] at HR
  have hq := quote_len xs.data.toList
  have hlx : xs.data.toList.length = xs.size := by rw [Array.length_toList]; rfl
  rw [hlx] at hq
  obtain ⟨Q, hQ⟩ : ∃ Q : ByteArray, (⟨(quoteL xs.data.toList).toArray⟩ : ByteArray) = Q := ⟨_, rfl⟩
  have hql : Q.data.toList = quoteL xs.data.toList := by rw [← hQ]
  have hqs : Q.size ≤ 400 := by rw [← hQ, size_mk]; omega
  rw [hQ] at HR
  have HQ := Lib.hid hql
  have z1 : ¬ 9223372036854775807 < 1 + Q.size := by omega
  have z2 : ¬ 9223372036854775807 < 1 + Q.size + 1 := by omega
  have HE := Lib.hid hE
  clear h hQ hql hq hE hcb
  go_enter Tryz.func9, Tryz.ntmps9
  go_wp2_with fail
  refine (fits_any 3 s true false xv xs _ _ H.out).mono ?_
  rintro e w1 ⟨rfl, c1⟩
  have C1 := Lib.hid ((below2 w (.cells #[.bool false, .int .i64 xv, .string xs] 23) (.cells #[.int .i64 3, .int .i64 s] 25)).trans (c1.mono (by simp; omega)))
  have q0 : w1.cell? ⟨w.heap.size, 0, none⟩ = some (.bool false) := cell_later c1 (by simp)
  have q2 : w1.cell? ⟨w.heap.size, 2, none⟩ = some (.string xs) := cell_later c1 (by simp)
  have q3 : w1.cell? ⟨w.heap.size + 1, 0, none⟩ = some (.int .i64 3) := cell_later c1 (by simp)
  clear c1
  go_wp2_with fail
  obtain ⟨m, hm⟩ := (HE.out.later C1.out).2
  refine (HR.out _ m hm).mono ?_
  rintro e w2 ⟨rfl, c2⟩
  have C2 := Lib.hid (C1.out.trans (c2.mono C1.out.size))
  clear c2 hm
  go_wp2_with fail
  go_ret2
  exact tx_some (by simp [ByteArray.data_append, HQ.out]) C2.out
end Go.Proofs.YtekpdcofjhdiiaaGreatDoor.Val
