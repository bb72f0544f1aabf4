/-
  ModTextC, ModRefG, ModRefT, ModRefH, ModRefI, ModRefJ in one.
-/
import Derived.Test.YtkemaonhchklmaaGreatDoorModTextB
import Derived.Test.YtkemaonhchklmaaGreatDoorModIn
import Derived.Test.YtkemaonhchklmaaGreatDoorModRight
import Derived.Test.YtkemaonhchklmaaGreatDoorModText
import Derived.Test.YtkemaonhchklmaaGreatDoorMdRf
import Derived.Test.YtkemaonhchklmaaGreatDoorRegTake
import Derived.Test.YtkemaonhchklmaaGreatDoorModSame
import Derived.Deep.QuietTactic
import Derived.BigQuiet
import Derived.StillTailTactics
/- ModTextC: What package module's Text answers of a br_table, and of any instruction. No condition but the instruction's own bounds. -/
namespace Go.Proofs.YtkemaonhchklmaaGreatDoor.Mod
open Go.RowKit Go.Maps Go.Proofs.YtkemaonhchklmaaGreatDoor.Op
set_option linter.unusedVariables false
def labsB (nm : ByteArray) (zs : List Int) : ByteArray := zs.foldl (fun o z => sayB o ⟨#[]⟩ z) nm
theorem labsB_succ (nm : ByteArray) {zs : List Int} {k : Nat} {z : Int} (h : zs[k]? = some z) : labsB nm (zs.take (k + 1)) = sayB (labsB nm (zs.take k)) ⟨#[]⟩ z := by
  unfold labsB
  rw [List.take_add_one, h, List.foldl_append]
  rfl
theorem labsB_size (nm : ByteArray) (hn : nm.size ≤ 100) : ∀ (zs : List Int), (∀ z ∈ zs, -9223372036854775808 ≤ z ∧ z ≤ 9223372036854775807) → ∀ k, (labsB nm (zs.take k)).size ≤ 100 + 131 * k
  | zs, hz, 0 => by rw [List.take_zero]; exact hn
  | zs, hz, k + 1 => by
    have ih := labsB_size nm hn zs hz k
    cases hm : zs[k]? with
    | none =>
      rw [List.take_add_one, hm]
      show (labsB nm (zs.take k ++ [])).size ≤ _
      rw [List.append_nil]
      omega
    | some z =>
      rw [labsB_succ nm hm]
      obtain ⟨h0, h1⟩ := hz z (List.mem_of_getElem? hm)
      have := say_size (labsB nm (zs.take k)) ⟨#[]⟩ z h0 h1 ih (by decide)
      omega
theorem labels_few {op a b : Int} {zs : List Int} {nm p r : ByteArray} (hi : opInfo op = some ⟨nm, 3, p, r⟩) (hr : rightB op a b zs = true) : zs.length ≤ 4096 := by
  apply Classical.byContradiction
  intro h
  unfold rightB at hr
  rw [hi] at hr
  unfold rightI at hr
  dsimp only at hr
  by_cases hb : b ≠ 0 ∧ (3 : Int) ≠ 5
  · rw [if_pos hb] at hr; cases hr
  · rw [if_neg hb, if_neg (by simp), if_pos (by omega)] at hr; cases hr
theorem ints_cells {w : World} {la : Option Addr} {n cp : Nat} {zs : List Int} (h : IntsAt w (.slice la n cp) zs) : ∀ j z, zs[j]? = some z → ∃ lb lo, la = some ⟨lb, lo, none⟩ ∧ w.cell? ⟨lb, lo + j, none⟩ = some (.int .i64 z) := by
  intro j z hz
  rcases h with ⟨_, rfl⟩ | ⟨b, off, c, hv, _, hc⟩ | ⟨_, _, _, rfl⟩
  · simp at hz
  · simp only [Value.slice.injEq] at hv
    exact ⟨b, off, hv.1, hc j z hz⟩
  · simp at hz
set_option maxRecDepth 100000 in
set_option maxHeartbeats 4000000 in
theorem text_s3 (op a b : Int) (la : Option Addr) (cp : Nat) (zs : List Int) (nm p r : ByteArray) (w : World) (hE : OpEnv w) (hP : PowEnv w) (hop : (Lit.int .i64 op).wf = true) (hil : IntsAt w (.slice la zs.length cp) zs) (hr : rightB op a b zs = true) (hi : opInfo op = some ⟨nm, 3, p, r⟩) (ha0 : -9223372036854775808 ≤ a) (ha1 : a ≤ 9223372036854775807) (hz : ∀ z ∈ zs, -9223372036854775808 ≤ z ∧ z ≤ 9223372036854775807) :
    Calls Tryz.prog 12 #[.agg #[.int .i64 op, .int .i64 a, .int .i64 b, .slice la zs.length cp]] w fun e w' => e = .returned (.tuple #[.string (sayB (labsB nm zs) ⟨#[]⟩ a), .bool true]) ∧ Below w.heap.size w w' := by
  have hns : nm.size ≤ 100 := name_short hi
  have hfew := labels_few hi hr
  have HSZ := Lib.hid (labsB_size nm hns zs hz)
  have B0 : Below w.heap.size w (w.alloc (.cells #[.int .i64 op, .int .i64 a, .int .i64 b, .slice la zs.length cp] 40)) := (Below.refl _ _).alloc (Nat.le_refl _) _
  have h1 := right_any op a b (.slice la zs.length cp) zs (w.alloc (.cells #[.int .i64 op, .int .i64 a, .int .i64 b, .slice la zs.length cp] 40)) (opEnv_later hE B0) hop (intsAt_later hil B0)
  rw [hr] at h1
  have HE := Lib.hid hE
  have HP := Lib.hid hP
  have HI := Lib.hid hi
  have HC := Lib.hid hop
  have HLC := Lib.hid (ints_cells hil)
  have HZ := Lib.hid hz
  clear hr hE hop hi hP hil hz
  go_enter Tryz.func12, Tryz.ntmps12
  go_wp2_with fail
  refine h1.mono ?_
  rintro e w1 ⟨rfl, c1⟩
  have x0 : w1.cell? ⟨w.heap.size, 0, none⟩ = some (.int .i64 op) := cell_later c1 (by simp)
  have X1 := Lib.hid (show w1.cell? ⟨w.heap.size, 1, none⟩ = some (.int .i64 a) from cell_later c1 (by simp))
  have X2 := Lib.hid (show w1.cell? ⟨w.heap.size, 3, none⟩ = some (.slice la zs.length cp) from cell_later c1 (by simp))
  have B1 := B0.trans (c1.mono B0.size)
  have hlt1 : w.heap.size < w1.heap.size := by have := c1.size; simp at this; omega
  clear c1 h1 B0
  go_wp2_with fail
  refine (of_lit op _ (opEnv_later HE.out B1) HC.out nm p r 3 true (by rw [HI.out]; rfl) (by rw [HI.out]; rfl)).mono ?_
  rintro e w2 ⟨rfl, c2⟩
  have B2 := B1.trans (c2.mono B1.size)
  have hlt2 : w.heap.size < w2.heap.size := Nat.lt_of_lt_of_le hlt1 c2.size
  have Y1 := Lib.hid (cell_later c2 X1.out)
  have Y2 := Lib.hid (cell_later c2 X2.out)
  clear c2 x0
  go_upto_region 6 with fail
  obtain ⟨W3, hW3⟩ : ∃ W3, (w2.alloc (.cells #[.string nm, .int .i64 3, .string p, .string r] 75)).alloc (.cells #[.string nm] 9) = W3 := ⟨_, rfl⟩
  have C3 : Below w2.heap.size w2 W3 := by rw [← hW3]; exact ((Below.refl _ _).alloc (Nat.le_refl _) _).alloc (by simp) _
  have z1 : W3.cell? ⟨w2.heap.size, 1, none⟩ = some (.int .i64 3) := by rw [← hW3]; simp
  have hob : W3.heap[w2.heap.size + 1]? = some (.cells #[.string nm] 9 (0, 0)) := by
    rw [← hW3]
    have := heap_alloc_new (w2.alloc (.cells #[.string nm, .int .i64 3, .string p, .string r] 75)) (.cells #[.string nm] 9)
    rw [show (w2.alloc (.cells #[.string nm, .int .i64 3, .string p, .string r] 75)).heap.size = w2.heap.size + 1 by simp] at this
    exact this
  rw [hW3]
  have B3 := Lib.hid (B2.trans (C3.mono B2.size))
  have HOB := Lib.hid hob
  have u1 : W3.cell? ⟨w.heap.size, 1, none⟩ = some (.int .i64 a) := cell_later C3 Y1.out
  have u2 : W3.cell? ⟨w.heap.size, 3, none⟩ = some (.slice la zs.length cp) := cell_later C3 Y2.out
  have U1 := Lib.hid u1
  have hz3 : w2.heap.size + 1 < W3.heap.size := (Array.getElem?_eq_some_iff.1 hob).1
  clear hW3 C3 B2 hob
  go_wp2_with fail
  clear z1 u1 u2
  go_loopw [41] (fun i wr => ∃ k : Nat, k ≤ zs.length ∧ i = .int .i64 k ∧ Keeps (fun j => j = w2.heap.size + 1) W3 wr ∧ wr.heap[w2.heap.size + 1]? = some (.cells #[.string (labsB nm (zs.take k))] 9 (0, 0))) (fun i _ => zs.length - (Go.RowKit.intOf i).toNat)
  case atStart => exact ⟨0, Nat.zero_le _, rfl, Keeps.refl _ _, by rw [List.take_zero]; exact HOB.out⟩
  case round =>
    obtain ⟨k, hk, rfl, hkp, hbx⟩ := hrel
    have HK := Lib.hid hkp
    have HBX := Lib.hid hbx
    have BW := Lib.hid (B3.out.trans (hkp.below (B := w.heap.size) (fun k hk => by omega) (B3.out.size)))
    clear hkp hbx
    by_cases hlt : k < zs.length
    · have d1 : decide ((k : Int) < (zs.length : Int)) = true := decide_eq_true (by omega)
      have d1' : decide (k < zs.length) = true := decide_eq_true hlt
      obtain ⟨z, hm⟩ : ∃ z, zs[k]? = some z := ⟨_, List.getElem?_eq_getElem hlt⟩
      obtain ⟨lb, lo, rfl, hq⟩ := HLC.out k z hm
      have q : wr.cell? ⟨lb, lo + k, none⟩ = some (.int .i64 z) := cell_later BW.out hq
      have HZB := Lib.hid (HZ.out z (List.mem_of_getElem? hm))
      have HM := Lib.hid hm
      have HSK := Lib.hid (HSZ.out k)
      clear hm hq
      go_wp2_with fail
      refine (say_any (labsB nm (zs.take k)) ⟨#[]⟩ z (w2.heap.size + 1) wr (HP.out.later BW.out) HZB.out.1 HZB.out.2 (by have := HSK.out; omega) (by decide) HBX.out).mono ?_
      rintro e V1 ⟨rfl, hk1, hc1⟩
      have HK1 := Lib.hid (Keeps.trans HK.out hk1 (fun j hj => .inl hj))
      have HB1 := Lib.hid (show V1.heap[w2.heap.size + 1]? = some (.cells #[.string (labsB nm (zs.take (k + 1)))] 9 (0, 0)) by rw [labsB_succ nm HM.out]; exact hc1)
      clear hk1 hc1 q
      go_wp2_with fail
      go_roundw
      case rel => exact ⟨k + 1, by omega, by go_num, HK1.out, HB1.out⟩
      case measure => simp [Go.RowKit.intOf]; omega
    · obtain rfl : k = zs.length := by omega
      have d1 : decide ((zs.length : Int) < (zs.length : Int)) = false := decide_eq_false (by omega)
      have d1' : decide (zs.length < zs.length) = false := decide_eq_false hlt
      have u1 : wr.cell? ⟨w.heap.size, 1, none⟩ = some (.int .i64 a) := HK.out.cell U1.out (by show w.heap.size ≠ w2.heap.size + 1; omega)
      have HSK := Lib.hid (show (labsB nm zs).size ≤ 100 + 131 * 4096 by have h9 := HSZ.out zs.length; rw [List.take_length] at h9; omega)
      have HBX2 := Lib.hid (show wr.heap[w2.heap.size + 1]? = some (.cells #[.string (labsB nm zs)] 9 (0, 0)) by have h9 := HBX.out; rw [List.take_length] at h9; exact h9)
      go_wp2_with fail
      refine (say_any (labsB nm zs) ⟨#[]⟩ a (w2.heap.size + 1) wr (HP.out.later BW.out) ha0 ha1 (by have := HSK.out; omega) (by decide) HBX2.out).mono ?_
      rintro e V1 ⟨rfl, hk1, hc1⟩
      have BV := Lib.hid (BW.out.trans (hk1.below (B := w.heap.size) (fun k hk => by omega) (BW.out.size)))
      have v0 : V1.cell? ⟨w2.heap.size + 1, 0, none⟩ = some (.string (sayB (labsB nm zs) ⟨#[]⟩ a)) := cell_of_row _ _ _ _ _ _ hc1
      clear hk1 hc1
      go_wp2_with fail
      go_ret2
      exact ⟨rfl, BV.out⟩
/-- an instruction's text -/
def textN (nm : ByteArray) (sh a b : Int) (zs : List Int) : ByteArray :=
  if sh = 1 then (if a = 127 then nm ++ ⟨#[32, 105, 51, 50]⟩ else if a = 126 then nm ++ ⟨#[32, 105, 54, 52]⟩ else nm)
  else if sh = 3 then sayB (labsB nm zs) ⟨#[]⟩ a
  else if sh = 5 then sayB (sayB nm ⟨#[111, 102, 102, 115, 101, 116, 61]⟩ b) ⟨#[97, 108, 105, 103, 110, 61]⟩ a
  else if sh = 2 ∨ sh = 4 ∨ sh = 7 then sayB nm ⟨#[]⟩ a else nm
def textI (op a b : Int) (zs : List Int) : Option ByteArray := if rightB op a b zs then (opInfo op).map fun i => textN i.name i.shape a b zs else none
theorem right_info {op a b : Int} {zs : List Int} (h : rightB op a b zs = true) : ∃ i, opInfo op = some i := by
  cases hi : opInfo op with
  | none => unfold rightB at h; rw [hi] at h; cases h
  | some i => exact ⟨i, rfl⟩
theorem right_nolab {op a b : Int} {zs : List Int} {nm p r : ByteArray} {sh : Int} (hi : opInfo op = some ⟨nm, sh, p, r⟩) (h : rightB op a b zs = true) (h3 : sh ≠ 3) : zs = [] := by
  apply Classical.byContradiction
  intro hz
  unfold rightB at h
  rw [hi] at h
  unfold rightI at h
  dsimp only at h
  by_cases hb : b ≠ 0 ∧ sh ≠ 5
  · rw [if_pos hb] at h; cases h
  · rw [if_neg hb, if_pos ⟨hz, h3⟩] at h; cases h
theorem right_block {op a b : Int} {nm p r : ByteArray} (hi : opInfo op = some ⟨nm, 1, p, r⟩) (h : rightB op a b [] = true) : a = 127 ∨ a = 126 ∨ a = 64 := by
  by_cases hb : b = 0
  · rw [right_tail hi a b (.inl hb), tail_1] at h
    simp only [Bool.or_eq_true, beq_iff_eq] at h
    omega
  · rw [right_bad hi a b [] hb (by decide)] at h
    cases h
theorem wfB {z : Int} (h : wf64 z) : -9223372036854775808 ≤ z ∧ z ≤ 9223372036854775807 := Go.bounds_i64 h
theorem text_any (op a b : Int) (zs : List Int) (lv : Value) (w : World) (hE : OpEnv w) (hP : PowEnv w) (hl : IntsAt w lv zs) (ho : InsOk ⟨op, a, b, zs⟩) :
    Calls Tryz.prog 12 #[.agg #[.int .i64 op, .int .i64 a, .int .i64 b, lv]] w fun e w' => e = .returned (.tuple #[.string ((textI op a b zs).getD ⟨#[]⟩), .bool (textI op a b zs).isSome]) ∧ Below w.heap.size w w' := by
  have hop : (Lit.int .i64 op).wf = true := ho.op
  obtain ⟨a0, a1⟩ := wfB ho.a
  obtain ⟨b0, b1⟩ := wfB ho.b
  change -9223372036854775808 ≤ a at a0
  change a ≤ 9223372036854775807 at a1
  change -9223372036854775808 ≤ b at b0
  change b ≤ 9223372036854775807 at b1
  obtain ⟨la, cp, rfl⟩ := intsAt_form hl
  cases hr : rightB op a b zs with
  | false =>
    rw [show textI op a b zs = none by unfold textI; rw [hr]; rfl]
    exact text_no op a b _ zs w hE hop hl hr
  | true =>
    obtain ⟨⟨nm, sh, p, r⟩, hi⟩ := right_info hr
    rw [show textI op a b zs = some (textN nm sh a b zs) by unfold textI; rw [hr, hi]; rfl]
    show Calls Tryz.prog _ _ w fun e w' => e = .returned (.tuple #[.string (textN nm sh a b zs), .bool true]) ∧ Below w.heap.size w w'
    have hs := shape_range hi
    change 0 ≤ sh ∧ sh ≤ 7 at hs
    by_cases h3 : sh = 3
    · subst h3
      exact text_s3 op a b la cp zs nm p r w hE hP hop hl hr hi a0 a1 (fun z hz => wfB (ho.labels z hz))
    · obtain rfl := right_nolab hi hr h3
      rcases (show sh = 0 ∨ sh = 1 ∨ sh = 2 ∨ sh = 4 ∨ sh = 5 ∨ sh = 6 ∨ sh = 7 by omega) with rfl | rfl | rfl | rfl | rfl | rfl | rfl
      · exact text_s0 op a b la cp nm p r w hE hP hop hr hi a0 a1 b0 b1
      · rcases right_block hi hr with rfl | rfl | rfl
        · exact text_s1a op b la cp nm p r w hE hP hop hr hi b0 b1
        · exact text_s1b op b la cp nm p r w hE hP hop hr hi b0 b1
        · exact text_s1c op b la cp nm p r w hE hP hop hr hi b0 b1
      · exact text_s2 op a b la cp nm p r w hE hP hop hr hi a0 a1 b0 b1
      · exact text_s4 op a b la cp nm p r w hE hP hop hr hi a0 a1 b0 b1
      · exact text_s5 op a b la cp nm p r w hE hP hop hr hi a0 a1 b0 b1
      · exact text_s6 op a b la cp nm p r w hE hP hop hr hi a0 a1 b0 b1
      · exact text_s7 op a b la cp nm p r w hE hP hop hr hi a0 a1 b0 b1
end Go.Proofs.YtkemaonhchklmaaGreatDoor.Mod

/- ModRefG: What the reference's digits and Digits of chapter 4 answer. No condition beyond what each theorem names. -/
namespace Go.Proofs.YtkemaonhchklmaaGreatDoor.Mod
open Go.RowKit Go.Maps Go.Proofs.YtkemaonhchklmaaGreatDoor.Op Go.Lib
set_option linter.unusedVariables false
set_option linter.unusedSimpArgs false
theorem conv_oneM (W : World) (b : Nat) (k : UInt8) (hc : W.cell? ⟨b, 0, none⟩ = some (.int .u8 (k.toNat : Int))) : (convert 93 9 (.slice (some ⟨b, 0, none⟩) 1 1)).run Tryz.prog W = .ok (.string ⟨#[k]⟩) W := by
  have h := run_convert_bytes_arg W 93 5 Tryz.underlying93 Tryz.underlying5 b 0 1 1 [(k.toNat : Int)] (by simp) (fun i hi => by
    obtain rfl : i = 0 := by omega
    exact hc) 9 Tryz.underlying9
  rw [h]
  simp [strOfNums]
def preD (x : Nat) : List UInt8 := if x < 10 then [] else decDigits (x / 10)
theorem pre_dec (x : Nat) : decDigits x = preD x ++ [UInt8.ofNat (48 + x % 10)] := by
  unfold preD
  by_cases h : x < 10
  · rw [if_pos h, decDigits, dif_pos h, Nat.mod_eq_of_lt h]; rfl
  · rw [if_neg h, decDigits, dif_neg h]
theorem dec_20 (u : Nat) (h : u < 18446744073709551616) : (decDigits u).length ≤ 20 := by
  rw [decDigits_length]
  by_cases h0 : u = 0
  · subst h0
    rw [← decDigits_length, show decDigits 0 = [48] by rw [decDigits]; rfl]
    decide
  · have := numDigits_eq u (by omega) h
    split at this <;> omega
theorem byte_dig (x : Nat) : ∃ k : UInt8, (k.toNat : Int) = 48 + (x : Int) % 10 ∧ UInt8.ofNat (48 + x % 10) = k := ⟨UInt8.ofNat (48 + x % 10), by simp; omega, rfl⟩
set_option maxRecDepth 100000 in
set_option maxHeartbeats 2000000 in
theorem rdigits_any (u : Nat) (hu : u < 18446744073709551616) (w : World) (R : ByteArray) (hR : R = ⟨(decDigits u).toArray⟩) : Calls Tryz.prog 86 #[.int .u64 (u : Int)] w fun e w' => e = .returned (.string R) ∧ Below w.heap.size w w' := by
  have HR := Lib.hid (show R.data.toList = decDigits u by rw [hR])
  have HL := Lib.hid (dec_20 u hu)
  clear hR
  obtain ⟨k0, hk0, hk0b⟩ := byte_dig u
  have HK0 := Lib.hid hk0b
  have z1 : (48 + (u : Int) % 10) % 256 = (k0.toNat : Int) := by omega
  have z2 : IntKind.u64.wrap (48 + (u : Int) % 10) = (k0.toNat : Int) := by rw [hk0]; simp [IntKind.wrap, IntKind.bits, IntKind.signed]; omega
  have z3 : IntKind.u8.wrap (k0.toNat : Int) = (k0.toNat : Int) := by simp [IntKind.wrap, IntKind.bits, IntKind.signed]; omega
  have z4 := conv_oneM (w.alloc (.cells #[.int .u8 (k0.toNat : Int)] 5)) w.heap.size k0 (World.cell?_alloc_at _ _ _ _ rfl)
  clear hk0 hk0b
  go_enter Tryz.func86, Tryz.ntmps86
  go_wp2_with fail
  clear z1 z2 z3 z4
  go_loopw [0, 3] (fun n s wr => ∃ (x : Nat) (S : ByteArray), n = .int .u64 (x : Int) ∧ x < 18446744073709551616 ∧ s = .string S ∧ decDigits u = preD x ++ S.data.toList ∧ Below w.heap.size w wr) (fun n _ _ => (Go.RowKit.intOf n).toNat)
  case atStart => exact ⟨u, ⟨#[k0]⟩, rfl, hu, rfl, by rw [pre_dec u, HK0.out], (Below.refl _ _).alloc (Nat.le_refl _) _⟩
  case round =>
    obtain ⟨x, S, rfl, hx, rfl, hS, hB⟩ := hrel
    have HS := Lib.hid hS
    have HB := Lib.hid hB
    have hsz : S.size ≤ 20 := by
      have h := congrArg List.length hS
      rw [List.length_append] at h
      have h2 := HL.out
      have h3 : S.data.toList.length = S.size := rfl
      omega
    clear hS hB
    by_cases h9 : 9 < x
    · have d1 : decide ((9 : Int) < (x : Int)) = true := decide_eq_true (by omega)
      have d1' : decide (9 < x) = true := decide_eq_true h9
      obtain ⟨y, hy⟩ : ∃ y, x / 10 = y := ⟨_, rfl⟩
      have hyi : (x : Int) / 10 = (y : Int) := by omega
      obtain ⟨k, hk, hkb⟩ := byte_dig y
      have HN := Lib.hid (show decDigits u = preD y ++ (⟨#[k]⟩ ++ S : ByteArray).data.toList by
        rw [HS.out, ByteArray.data_append, Array.toList_append]
        unfold preD
        rw [if_neg (by omega), hy, pre_dec y, hkb]
        unfold preD
        simp)
      have z1 : (48 + (y : Int) % 10) % 256 = (k.toNat : Int) := by omega
      have z2 : IntKind.u64.wrap (48 + (y : Int) % 10) = (k.toNat : Int) := by rw [hk]; simp [IntKind.wrap, IntKind.bits, IntKind.signed]; omega
      have z3 : IntKind.u8.wrap (k.toNat : Int) = (k.toNat : Int) := by simp [IntKind.wrap, IntKind.bits, IntKind.signed]; omega
      have z4 := conv_oneM (wr.alloc (.cells #[.int .u8 (k.toNat : Int)] 5)) wr.heap.size k (World.cell?_alloc_at _ _ _ _ rfl)
      have hcat : ¬ 9223372036854775807 < (⟨#[k]⟩ : ByteArray).size + S.size := by show ¬ 9223372036854775807 < 1 + S.size; omega
      clear hk hkb hy
      go_wp2_with fail
      go_roundw
      case rel => exact ⟨y, ⟨#[k]⟩ ++ S, rfl, by omega, rfl, HN.out, HB.out.alloc HB.out.size _⟩
      case measure => simp [Go.RowKit.intOf]; omega
    · have d1 : decide ((9 : Int) < (x : Int)) = false := decide_eq_false (by omega)
      have d1' : decide (9 < x) = false := decide_eq_false h9
      have hSR : S = R := by
        have h := HS.out
        unfold preD at h
        rw [if_pos (by omega), List.nil_append, ← HR.out] at h
        exact ByteArray.ext (Array.toList_inj.1 h.symm)
      subst hSR
      go_wp2_with fail
      go_ret
      exact ⟨rfl, HB.out⟩
set_option maxRecDepth 100000 in
set_option maxHeartbeats 2000000 in
theorem rDigits_any (n : Int) (h0 : -9223372036854775808 ≤ n) (h1 : n ≤ 9223372036854775807) (w : World) : Calls Tryz.prog 45 #[.int .i64 n] w fun e w' => e = .returned (.string ⟨(itoa n).toArray⟩) ∧ Below w.heap.size w w' := by
  obtain ⟨U, hU⟩ : ∃ U, n.natAbs = U := ⟨_, rfl⟩
  obtain ⟨D, hD⟩ : ∃ D : ByteArray, D = ⟨(decDigits U).toArray⟩ := ⟨_, rfl⟩
  have HD := Lib.hid (fun W => rdigits_any U (by omega) W D hD)
  have hds : D.size ≤ 20 := by rw [hD]; show (decDigits U).toArray.size ≤ 20; rw [List.size_toArray]; exact dec_20 U (by omega)
  have hcat : ¬ 9223372036854775807 < 1 + D.size := by omega
  by_cases hn : n < 0
  · have d1 : decide (n < 0) = true := decide_eq_true hn
    have HI := Lib.hid (show (⟨(itoa n).toArray⟩ : ByteArray) = ⟨#[45]⟩ ++ D by
      apply ByteArray.ext
      rw [ByteArray.data_append, hD]
      unfold itoa
      rw [if_pos hn, hU]
      simp)
    obtain ⟨v, hv⟩ : ∃ v : Nat, -(n + 1) = (v : Int) := ⟨(-(n + 1)).toNat, by omega⟩
    have hvu : (v : Int) + 1 = (U : Int) := by omega
    have z1 : IntKind.i64.wrap (n + 1) = n + 1 := by simp [IntKind.wrap, IntKind.bits, IntKind.signed]; omega
    have z2 : IntKind.i64.wrap (v : Int) = (v : Int) := by simp [IntKind.wrap, IntKind.bits, IntKind.signed]; omega
    have z3 : IntKind.u64.wrap (v : Int) = (v : Int) := by simp [IntKind.wrap, IntKind.bits, IntKind.signed]; omega
    have z4 : IntKind.u64.wrap (U : Int) = (U : Int) := by simp [IntKind.wrap, IntKind.bits, IntKind.signed]; omega
    clear hU hD
    rw [HI.out]
    go_enter Tryz.func45, Tryz.ntmps45
    go_wp2_with fail
    refine (HD.out _).mono ?_
    rintro e w1 ⟨rfl, c1⟩
    go_wp2_with fail
    go_ret
    exact ⟨rfl, c1⟩
  · have d1 : decide (n < 0) = false := decide_eq_false hn
    have hnU : n = (U : Int) := by omega
    have HI := Lib.hid (show (⟨(itoa n).toArray⟩ : ByteArray) = D by
      rw [hD]
      unfold itoa
      rw [if_neg hn, show n.toNat = U by omega])
    subst hnU
    have z4 : IntKind.u64.wrap (U : Int) = (U : Int) := by simp [IntKind.wrap, IntKind.bits, IntKind.signed]; omega
    clear hU hD
    rw [HI.out]
    go_enter Tryz.func45, Tryz.ntmps45
    go_wp2_with fail
    refine (HD.out _).mono ?_
    rintro e w1 ⟨rfl, c1⟩
    go_wp2_with fail
    go_ret
    exact ⟨rfl, c1⟩
end Go.Proofs.YtkemaonhchklmaaGreatDoor.Mod

/- ModRefT: What the reference's Text of chapter 4 answers of any instruction. No condition but the instruction's own bounds. -/
namespace Go.Proofs.YtkemaonhchklmaaGreatDoor.Mod
open Go.RowKit Go.Maps Go.Proofs.YtkemaonhchklmaaGreatDoor.Op
set_option linter.unusedVariables false
set_option linter.unusedSimpArgs false
theorem say_eq (o T : ByteArray) (a : Int) (h : (⟨(Lib.itoa a).toArray⟩ : ByteArray) = T) : o ++ ⟨#[32]⟩ ++ T = sayB o ⟨#[]⟩ a := by
  subst h
  unfold sayB
  apply ByteArray.ext
  simp [ByteArray.data_append]
theorem say_eq2 (o T U : ByteArray) (a b : Int) (h : (⟨(Lib.itoa b).toArray⟩ : ByteArray) = T) (h2 : (⟨(Lib.itoa a).toArray⟩ : ByteArray) = U) : o ++ ⟨#[32, 111, 102, 102, 115, 101, 116, 61]⟩ ++ T ++ ⟨#[32, 97, 108, 105, 103, 110, 61]⟩ ++ U = sayB (sayB o ⟨#[111, 102, 102, 115, 101, 116, 61]⟩ b) ⟨#[97, 108, 105, 103, 110, 61]⟩ a := by
  subst h h2
  unfold sayB
  apply ByteArray.ext
  simp [ByteArray.data_append]
theorem itoa_size (a : Int) (h0 : -9223372036854775808 ≤ a) (h1 : a ≤ 9223372036854775807) : (⟨(Lib.itoa a).toArray⟩ : ByteArray).size ≤ 30 := by
  have := Lib.itoa_length_le a h0 h1
  show (Lib.itoa a).toArray.size ≤ 30
  rw [List.size_toArray]
  omega
abbrev HeldX (w : World) (a b : Int) (W : World) : Prop := W.cell? ⟨w.heap.size, 1, none⟩ = some (.int .i64 a) ∧ W.cell? ⟨w.heap.size, 2, none⟩ = some (.int .i64 b) ∧ Below w.heap.size w W
theorem heldX_later {w : World} {a b : Int} {W W' : World} (c : Below W.heap.size W W') (h : HeldX w a b W) : HeldX w a b W' := by
  obtain ⟨h0, h1, h2⟩ := h
  exact ⟨cell_later c h0, cell_later c h1, h2.trans (c.mono h2.size)⟩
set_option maxRecDepth 100000 in
set_option maxHeartbeats 4000000 in
theorem rtx_0 (op a b : Int) (la : Option Addr) (cp : Nat) (zs : List Int) (nm p r : ByteArray) (w : World) (h63 : zs.length ≤ 9223372036854775807) (hl : IntsAt w (.slice la zs.length cp) zs) (hr : rightB op a b zs = true) (hi : opInfo op = some ⟨nm, 0, p, r⟩) (a0 : -9223372036854775808 ≤ a) (a1 : a ≤ 9223372036854775807) (b0 : -9223372036854775808 ≤ b) (b1 : b ≤ 9223372036854775807) :
    Calls Tryz.prog 13 #[.agg #[.int .i64 op, .int .i64 a, .int .i64 b, .slice la zs.length cp]] w fun e w' => e = .returned (.tuple #[.string (nm), .bool true]) ∧ Below w.heap.size w w' := by
  have hns : nm.size ≤ 100 := name_short hi
  have HLC := Lib.hid (ints_cells hl)
  have B0 : Below w.heap.size w (w.alloc (.cells #[.int .i64 op, .int .i64 a, .int .i64 b, .slice la zs.length cp] 40)) := (Below.refl _ _).alloc (Nat.le_refl _) _
  have h1 := rright_any op a b (.slice la zs.length cp) zs (w.alloc (.cells #[.int .i64 op, .int .i64 a, .int .i64 b, .slice la zs.length cp] 40)) h63 (intsAt_later hl B0)
  rw [hr] at h1
  have HI := Lib.hid hi
  obtain ⟨T, hT⟩ : ∃ T : ByteArray, (⟨(Lib.itoa a).toArray⟩ : ByteArray) = T := ⟨_, rfl⟩
  obtain ⟨U, hU⟩ : ∃ U : ByteArray, (⟨(Lib.itoa b).toArray⟩ : ByteArray) = U := ⟨_, rfl⟩
  have hTs : T.size ≤ 30 := by rw [← hT]; exact itoa_size a a0 a1
  have hUs : U.size ≤ 30 := by rw [← hU]; exact itoa_size b b0 b1
  have HDA := Lib.hid (show ∀ W, Calls Tryz.prog 45 #[.int .i64 a] W fun e w' => e = .returned (.string T) ∧ Below W.heap.size W w' from fun W => by rw [← hT]; exact rDigits_any a a0 a1 W)
  have HDB := Lib.hid (show ∀ W, Calls Tryz.prog 45 #[.int .i64 b] W fun e w' => e = .returned (.string U) ∧ Below W.heap.size W w' from fun W => by rw [← hU]; exact rDigits_any b b0 b1 W)
  have HT := Lib.hid hT
  have HU := Lib.hid hU
  clear hr hi hl hT hU
  go_enter Tryz.func13, Tryz.ntmps13
  go_wp2_with fail
  refine h1.mono ?_
  rintro e w1 ⟨rfl, c1⟩
  have x0 : w1.cell? ⟨w.heap.size, 0, none⟩ = some (.int .i64 op) := cell_later c1 (by simp)
  have X1 := Lib.hid (show w1.cell? ⟨w.heap.size, 1, none⟩ = some (.int .i64 a) from cell_later c1 (by simp))
  have X2 := Lib.hid (show w1.cell? ⟨w.heap.size, 2, none⟩ = some (.int .i64 b) from cell_later c1 (by simp))
  have X3 := Lib.hid (show w1.cell? ⟨w.heap.size, 3, none⟩ = some (.slice la zs.length cp) from cell_later c1 (by simp))
  have B1 := B0.trans (c1.mono B0.size)
  have hlt1 : w.heap.size < w1.heap.size := by have := c1.size; simp at this; omega
  clear c1 h1 B0
  go_wp2_with fail
  refine (rof_any op _ nm p r 0 true (by rw [HI.out]; rfl) (by rw [HI.out]; rfl)).mono ?_
  rintro e w2 ⟨rfl, c2⟩
  obtain ⟨W3, hW3⟩ : ∃ W3, w2.alloc (.cells #[.string nm, .int .i64 0, .string p, .string r] 80) = W3 := ⟨_, rfl⟩
  have C3 : Below w1.heap.size w1 W3 := by rw [← hW3]; exact c2.alloc c2.size _
  have z0 : W3.cell? ⟨w2.heap.size, 0, none⟩ = some (.string nm) := by rw [← hW3]; simp
  have z1 : W3.cell? ⟨w2.heap.size, 1, none⟩ = some (.int .i64 0) := by rw [← hW3]; simp
  have B3 := Lib.hid (B1.trans (C3.mono B1.size))
  have u1 := cell_later C3 X1.out
  have u2 := cell_later C3 X2.out
  have u3 := cell_later C3 X3.out
  have HW3 := Lib.hid hW3
  clear hW3 c2 C3 x0
  go_upto_region 5 with fail
  rw [HW3.out]
  clear HW3
  go_wp2_with fail
  go_ret2
  exact ⟨rfl, B3.out⟩
set_option maxRecDepth 100000 in
set_option maxHeartbeats 4000000 in
theorem rtx_6 (op a b : Int) (la : Option Addr) (cp : Nat) (zs : List Int) (nm p r : ByteArray) (w : World) (h63 : zs.length ≤ 9223372036854775807) (hl : IntsAt w (.slice la zs.length cp) zs) (hr : rightB op a b zs = true) (hi : opInfo op = some ⟨nm, 6, p, r⟩) (a0 : -9223372036854775808 ≤ a) (a1 : a ≤ 9223372036854775807) (b0 : -9223372036854775808 ≤ b) (b1 : b ≤ 9223372036854775807) :
    Calls Tryz.prog 13 #[.agg #[.int .i64 op, .int .i64 a, .int .i64 b, .slice la zs.length cp]] w fun e w' => e = .returned (.tuple #[.string (nm), .bool true]) ∧ Below w.heap.size w w' := by
  have hns : nm.size ≤ 100 := name_short hi
  have HLC := Lib.hid (ints_cells hl)
  have B0 : Below w.heap.size w (w.alloc (.cells #[.int .i64 op, .int .i64 a, .int .i64 b, .slice la zs.length cp] 40)) := (Below.refl _ _).alloc (Nat.le_refl _) _
  have h1 := rright_any op a b (.slice la zs.length cp) zs (w.alloc (.cells #[.int .i64 op, .int .i64 a, .int .i64 b, .slice la zs.length cp] 40)) h63 (intsAt_later hl B0)
  rw [hr] at h1
  have HI := Lib.hid hi
  obtain ⟨T, hT⟩ : ∃ T : ByteArray, (⟨(Lib.itoa a).toArray⟩ : ByteArray) = T := ⟨_, rfl⟩
  obtain ⟨U, hU⟩ : ∃ U : ByteArray, (⟨(Lib.itoa b).toArray⟩ : ByteArray) = U := ⟨_, rfl⟩
  have hTs : T.size ≤ 30 := by rw [← hT]; exact itoa_size a a0 a1
  have hUs : U.size ≤ 30 := by rw [← hU]; exact itoa_size b b0 b1
  have HDA := Lib.hid (show ∀ W, Calls Tryz.prog 45 #[.int .i64 a] W fun e w' => e = .returned (.string T) ∧ Below W.heap.size W w' from fun W => by rw [← hT]; exact rDigits_any a a0 a1 W)
  have HDB := Lib.hid (show ∀ W, Calls Tryz.prog 45 #[.int .i64 b] W fun e w' => e = .returned (.string U) ∧ Below W.heap.size W w' from fun W => by rw [← hU]; exact rDigits_any b b0 b1 W)
  have HT := Lib.hid hT
  have HU := Lib.hid hU
  clear hr hi hl hT hU
  go_enter Tryz.func13, Tryz.ntmps13
  go_wp2_with fail
  refine h1.mono ?_
  rintro e w1 ⟨rfl, c1⟩
  have x0 : w1.cell? ⟨w.heap.size, 0, none⟩ = some (.int .i64 op) := cell_later c1 (by simp)
  have X1 := Lib.hid (show w1.cell? ⟨w.heap.size, 1, none⟩ = some (.int .i64 a) from cell_later c1 (by simp))
  have X2 := Lib.hid (show w1.cell? ⟨w.heap.size, 2, none⟩ = some (.int .i64 b) from cell_later c1 (by simp))
  have X3 := Lib.hid (show w1.cell? ⟨w.heap.size, 3, none⟩ = some (.slice la zs.length cp) from cell_later c1 (by simp))
  have B1 := B0.trans (c1.mono B0.size)
  have hlt1 : w.heap.size < w1.heap.size := by have := c1.size; simp at this; omega
  clear c1 h1 B0
  go_wp2_with fail
  refine (rof_any op _ nm p r 6 true (by rw [HI.out]; rfl) (by rw [HI.out]; rfl)).mono ?_
  rintro e w2 ⟨rfl, c2⟩
  obtain ⟨W3, hW3⟩ : ∃ W3, w2.alloc (.cells #[.string nm, .int .i64 6, .string p, .string r] 80) = W3 := ⟨_, rfl⟩
  have C3 : Below w1.heap.size w1 W3 := by rw [← hW3]; exact c2.alloc c2.size _
  have z0 : W3.cell? ⟨w2.heap.size, 0, none⟩ = some (.string nm) := by rw [← hW3]; simp
  have z1 : W3.cell? ⟨w2.heap.size, 1, none⟩ = some (.int .i64 6) := by rw [← hW3]; simp
  have B3 := Lib.hid (B1.trans (C3.mono B1.size))
  have u1 := cell_later C3 X1.out
  have u2 := cell_later C3 X2.out
  have u3 := cell_later C3 X3.out
  have HW3 := Lib.hid hW3
  clear hW3 c2 C3 x0
  go_upto_region 5 with fail
  rw [HW3.out]
  clear HW3
  go_wp2_with fail
  go_ret2
  exact ⟨rfl, B3.out⟩
set_option maxRecDepth 100000 in
set_option maxHeartbeats 4000000 in
theorem rtx_1a (op a b : Int) (la : Option Addr) (cp : Nat) (zs : List Int) (nm p r : ByteArray) (w : World) (h63 : zs.length ≤ 9223372036854775807) (hl : IntsAt w (.slice la zs.length cp) zs) (hr : rightB op a b zs = true) (hi : opInfo op = some ⟨nm, 1, p, r⟩) (a0 : -9223372036854775808 ≤ a) (a1 : a ≤ 9223372036854775807) (b0 : -9223372036854775808 ≤ b) (b1 : b ≤ 9223372036854775807) (hv : a = 127) :
    Calls Tryz.prog 13 #[.agg #[.int .i64 op, .int .i64 a, .int .i64 b, .slice la zs.length cp]] w fun e w' => e = .returned (.tuple #[.string (nm ++ ⟨#[32, 105, 51, 50]⟩), .bool true]) ∧ Below w.heap.size w w' := by
  have e7 : (a == 127) = true := by rw [hv]; rfl
  have e6 : (a == 126) = false := by rw [hv]; rfl
  clear hv
  have hns : nm.size ≤ 100 := name_short hi
  have HLC := Lib.hid (ints_cells hl)
  have B0 : Below w.heap.size w (w.alloc (.cells #[.int .i64 op, .int .i64 a, .int .i64 b, .slice la zs.length cp] 40)) := (Below.refl _ _).alloc (Nat.le_refl _) _
  have h1 := rright_any op a b (.slice la zs.length cp) zs (w.alloc (.cells #[.int .i64 op, .int .i64 a, .int .i64 b, .slice la zs.length cp] 40)) h63 (intsAt_later hl B0)
  rw [hr] at h1
  have HI := Lib.hid hi
  obtain ⟨T, hT⟩ : ∃ T : ByteArray, (⟨(Lib.itoa a).toArray⟩ : ByteArray) = T := ⟨_, rfl⟩
  obtain ⟨U, hU⟩ : ∃ U : ByteArray, (⟨(Lib.itoa b).toArray⟩ : ByteArray) = U := ⟨_, rfl⟩
  have hTs : T.size ≤ 30 := by rw [← hT]; exact itoa_size a a0 a1
  have hUs : U.size ≤ 30 := by rw [← hU]; exact itoa_size b b0 b1
  have HDA := Lib.hid (show ∀ W, Calls Tryz.prog 45 #[.int .i64 a] W fun e w' => e = .returned (.string T) ∧ Below W.heap.size W w' from fun W => by rw [← hT]; exact rDigits_any a a0 a1 W)
  have HDB := Lib.hid (show ∀ W, Calls Tryz.prog 45 #[.int .i64 b] W fun e w' => e = .returned (.string U) ∧ Below W.heap.size W w' from fun W => by rw [← hU]; exact rDigits_any b b0 b1 W)
  have HT := Lib.hid hT
  have HU := Lib.hid hU
  clear hr hi hl hT hU
  go_enter Tryz.func13, Tryz.ntmps13
  go_wp2_with fail
  refine h1.mono ?_
  rintro e w1 ⟨rfl, c1⟩
  have x0 : w1.cell? ⟨w.heap.size, 0, none⟩ = some (.int .i64 op) := cell_later c1 (by simp)
  have X1 := Lib.hid (show w1.cell? ⟨w.heap.size, 1, none⟩ = some (.int .i64 a) from cell_later c1 (by simp))
  have X2 := Lib.hid (show w1.cell? ⟨w.heap.size, 2, none⟩ = some (.int .i64 b) from cell_later c1 (by simp))
  have X3 := Lib.hid (show w1.cell? ⟨w.heap.size, 3, none⟩ = some (.slice la zs.length cp) from cell_later c1 (by simp))
  have B1 := B0.trans (c1.mono B0.size)
  have hlt1 : w.heap.size < w1.heap.size := by have := c1.size; simp at this; omega
  clear c1 h1 B0
  go_wp2_with fail
  refine (rof_any op _ nm p r 1 true (by rw [HI.out]; rfl) (by rw [HI.out]; rfl)).mono ?_
  rintro e w2 ⟨rfl, c2⟩
  obtain ⟨W3, hW3⟩ : ∃ W3, w2.alloc (.cells #[.string nm, .int .i64 1, .string p, .string r] 80) = W3 := ⟨_, rfl⟩
  have C3 : Below w1.heap.size w1 W3 := by rw [← hW3]; exact c2.alloc c2.size _
  have z0 : W3.cell? ⟨w2.heap.size, 0, none⟩ = some (.string nm) := by rw [← hW3]; simp
  have z1 : W3.cell? ⟨w2.heap.size, 1, none⟩ = some (.int .i64 1) := by rw [← hW3]; simp
  have B3 := Lib.hid (B1.trans (C3.mono B1.size))
  have u1 := cell_later C3 X1.out
  have u2 := cell_later C3 X2.out
  have u3 := cell_later C3 X3.out
  have HW3 := Lib.hid hW3
  clear hW3 c2 C3 x0
  go_upto_region 5 with fail
  rw [HW3.out]
  clear HW3
  have zc : ¬ 9223372036854775807 < nm.size + 4 := by omega
  go_wp2_with fail
  go_ret2
  exact ⟨rfl, B3.out⟩
set_option maxRecDepth 100000 in
set_option maxHeartbeats 4000000 in
theorem rtx_1b (op a b : Int) (la : Option Addr) (cp : Nat) (zs : List Int) (nm p r : ByteArray) (w : World) (h63 : zs.length ≤ 9223372036854775807) (hl : IntsAt w (.slice la zs.length cp) zs) (hr : rightB op a b zs = true) (hi : opInfo op = some ⟨nm, 1, p, r⟩) (a0 : -9223372036854775808 ≤ a) (a1 : a ≤ 9223372036854775807) (b0 : -9223372036854775808 ≤ b) (b1 : b ≤ 9223372036854775807) (hv : a = 126) :
    Calls Tryz.prog 13 #[.agg #[.int .i64 op, .int .i64 a, .int .i64 b, .slice la zs.length cp]] w fun e w' => e = .returned (.tuple #[.string (nm ++ ⟨#[32, 105, 54, 52]⟩), .bool true]) ∧ Below w.heap.size w w' := by
  have e7 : (a == 127) = false := by rw [hv]; rfl
  have e6 : (a == 126) = true := by rw [hv]; rfl
  clear hv
  have hns : nm.size ≤ 100 := name_short hi
  have HLC := Lib.hid (ints_cells hl)
  have B0 : Below w.heap.size w (w.alloc (.cells #[.int .i64 op, .int .i64 a, .int .i64 b, .slice la zs.length cp] 40)) := (Below.refl _ _).alloc (Nat.le_refl _) _
  have h1 := rright_any op a b (.slice la zs.length cp) zs (w.alloc (.cells #[.int .i64 op, .int .i64 a, .int .i64 b, .slice la zs.length cp] 40)) h63 (intsAt_later hl B0)
  rw [hr] at h1
  have HI := Lib.hid hi
  obtain ⟨T, hT⟩ : ∃ T : ByteArray, (⟨(Lib.itoa a).toArray⟩ : ByteArray) = T := ⟨_, rfl⟩
  obtain ⟨U, hU⟩ : ∃ U : ByteArray, (⟨(Lib.itoa b).toArray⟩ : ByteArray) = U := ⟨_, rfl⟩
  have hTs : T.size ≤ 30 := by rw [← hT]; exact itoa_size a a0 a1
  have hUs : U.size ≤ 30 := by rw [← hU]; exact itoa_size b b0 b1
  have HDA := Lib.hid (show ∀ W, Calls Tryz.prog 45 #[.int .i64 a] W fun e w' => e = .returned (.string T) ∧ Below W.heap.size W w' from fun W => by rw [← hT]; exact rDigits_any a a0 a1 W)
  have HDB := Lib.hid (show ∀ W, Calls Tryz.prog 45 #[.int .i64 b] W fun e w' => e = .returned (.string U) ∧ Below W.heap.size W w' from fun W => by rw [← hU]; exact rDigits_any b b0 b1 W)
  have HT := Lib.hid hT
  have HU := Lib.hid hU
  clear hr hi hl hT hU
  go_enter Tryz.func13, Tryz.ntmps13
  go_wp2_with fail
  refine h1.mono ?_
  rintro e w1 ⟨rfl, c1⟩
  have x0 : w1.cell? ⟨w.heap.size, 0, none⟩ = some (.int .i64 op) := cell_later c1 (by simp)
  have X1 := Lib.hid (show w1.cell? ⟨w.heap.size, 1, none⟩ = some (.int .i64 a) from cell_later c1 (by simp))
  have X2 := Lib.hid (show w1.cell? ⟨w.heap.size, 2, none⟩ = some (.int .i64 b) from cell_later c1 (by simp))
  have X3 := Lib.hid (show w1.cell? ⟨w.heap.size, 3, none⟩ = some (.slice la zs.length cp) from cell_later c1 (by simp))
  have B1 := B0.trans (c1.mono B0.size)
  have hlt1 : w.heap.size < w1.heap.size := by have := c1.size; simp at this; omega
  clear c1 h1 B0
  go_wp2_with fail
  refine (rof_any op _ nm p r 1 true (by rw [HI.out]; rfl) (by rw [HI.out]; rfl)).mono ?_
  rintro e w2 ⟨rfl, c2⟩
  obtain ⟨W3, hW3⟩ : ∃ W3, w2.alloc (.cells #[.string nm, .int .i64 1, .string p, .string r] 80) = W3 := ⟨_, rfl⟩
  have C3 : Below w1.heap.size w1 W3 := by rw [← hW3]; exact c2.alloc c2.size _
  have z0 : W3.cell? ⟨w2.heap.size, 0, none⟩ = some (.string nm) := by rw [← hW3]; simp
  have z1 : W3.cell? ⟨w2.heap.size, 1, none⟩ = some (.int .i64 1) := by rw [← hW3]; simp
  have B3 := Lib.hid (B1.trans (C3.mono B1.size))
  have u1 := cell_later C3 X1.out
  have u2 := cell_later C3 X2.out
  have u3 := cell_later C3 X3.out
  have HW3 := Lib.hid hW3
  clear hW3 c2 C3 x0
  go_upto_region 5 with fail
  rw [HW3.out]
  clear HW3
  have zc : ¬ 9223372036854775807 < nm.size + 4 := by omega
  go_wp2_with fail
  go_ret2
  exact ⟨rfl, B3.out⟩
set_option maxRecDepth 100000 in
set_option maxHeartbeats 4000000 in
theorem rtx_1c (op a b : Int) (la : Option Addr) (cp : Nat) (zs : List Int) (nm p r : ByteArray) (w : World) (h63 : zs.length ≤ 9223372036854775807) (hl : IntsAt w (.slice la zs.length cp) zs) (hr : rightB op a b zs = true) (hi : opInfo op = some ⟨nm, 1, p, r⟩) (a0 : -9223372036854775808 ≤ a) (a1 : a ≤ 9223372036854775807) (b0 : -9223372036854775808 ≤ b) (b1 : b ≤ 9223372036854775807) (hv : a = 64) :
    Calls Tryz.prog 13 #[.agg #[.int .i64 op, .int .i64 a, .int .i64 b, .slice la zs.length cp]] w fun e w' => e = .returned (.tuple #[.string (nm), .bool true]) ∧ Below w.heap.size w w' := by
  have e7 : (a == 127) = false := by rw [hv]; rfl
  have e6 : (a == 126) = false := by rw [hv]; rfl
  clear hv
  have hns : nm.size ≤ 100 := name_short hi
  have HLC := Lib.hid (ints_cells hl)
  have B0 : Below w.heap.size w (w.alloc (.cells #[.int .i64 op, .int .i64 a, .int .i64 b, .slice la zs.length cp] 40)) := (Below.refl _ _).alloc (Nat.le_refl _) _
  have h1 := rright_any op a b (.slice la zs.length cp) zs (w.alloc (.cells #[.int .i64 op, .int .i64 a, .int .i64 b, .slice la zs.length cp] 40)) h63 (intsAt_later hl B0)
  rw [hr] at h1
  have HI := Lib.hid hi
  obtain ⟨T, hT⟩ : ∃ T : ByteArray, (⟨(Lib.itoa a).toArray⟩ : ByteArray) = T := ⟨_, rfl⟩
  obtain ⟨U, hU⟩ : ∃ U : ByteArray, (⟨(Lib.itoa b).toArray⟩ : ByteArray) = U := ⟨_, rfl⟩
  have hTs : T.size ≤ 30 := by rw [← hT]; exact itoa_size a a0 a1
  have hUs : U.size ≤ 30 := by rw [← hU]; exact itoa_size b b0 b1
  have HDA := Lib.hid (show ∀ W, Calls Tryz.prog 45 #[.int .i64 a] W fun e w' => e = .returned (.string T) ∧ Below W.heap.size W w' from fun W => by rw [← hT]; exact rDigits_any a a0 a1 W)
  have HDB := Lib.hid (show ∀ W, Calls Tryz.prog 45 #[.int .i64 b] W fun e w' => e = .returned (.string U) ∧ Below W.heap.size W w' from fun W => by rw [← hU]; exact rDigits_any b b0 b1 W)
  have HT := Lib.hid hT
  have HU := Lib.hid hU
  clear hr hi hl hT hU
  go_enter Tryz.func13, Tryz.ntmps13
  go_wp2_with fail
  refine h1.mono ?_
  rintro e w1 ⟨rfl, c1⟩
  have x0 : w1.cell? ⟨w.heap.size, 0, none⟩ = some (.int .i64 op) := cell_later c1 (by simp)
  have X1 := Lib.hid (show w1.cell? ⟨w.heap.size, 1, none⟩ = some (.int .i64 a) from cell_later c1 (by simp))
  have X2 := Lib.hid (show w1.cell? ⟨w.heap.size, 2, none⟩ = some (.int .i64 b) from cell_later c1 (by simp))
  have X3 := Lib.hid (show w1.cell? ⟨w.heap.size, 3, none⟩ = some (.slice la zs.length cp) from cell_later c1 (by simp))
  have B1 := B0.trans (c1.mono B0.size)
  have hlt1 : w.heap.size < w1.heap.size := by have := c1.size; simp at this; omega
  clear c1 h1 B0
  go_wp2_with fail
  refine (rof_any op _ nm p r 1 true (by rw [HI.out]; rfl) (by rw [HI.out]; rfl)).mono ?_
  rintro e w2 ⟨rfl, c2⟩
  obtain ⟨W3, hW3⟩ : ∃ W3, w2.alloc (.cells #[.string nm, .int .i64 1, .string p, .string r] 80) = W3 := ⟨_, rfl⟩
  have C3 : Below w1.heap.size w1 W3 := by rw [← hW3]; exact c2.alloc c2.size _
  have z0 : W3.cell? ⟨w2.heap.size, 0, none⟩ = some (.string nm) := by rw [← hW3]; simp
  have z1 : W3.cell? ⟨w2.heap.size, 1, none⟩ = some (.int .i64 1) := by rw [← hW3]; simp
  have B3 := Lib.hid (B1.trans (C3.mono B1.size))
  have u1 := cell_later C3 X1.out
  have u2 := cell_later C3 X2.out
  have u3 := cell_later C3 X3.out
  have HW3 := Lib.hid hW3
  clear hW3 c2 C3 x0
  go_upto_region 5 with fail
  rw [HW3.out]
  clear HW3
  have zc : ¬ 9223372036854775807 < nm.size + 4 := by omega
  go_wp2_with fail
  go_ret2
  exact ⟨rfl, B3.out⟩
set_option maxRecDepth 100000 in
set_option maxHeartbeats 4000000 in
theorem rtx_2 (op a b : Int) (la : Option Addr) (cp : Nat) (zs : List Int) (nm p r : ByteArray) (w : World) (h63 : zs.length ≤ 9223372036854775807) (hl : IntsAt w (.slice la zs.length cp) zs) (hr : rightB op a b zs = true) (hi : opInfo op = some ⟨nm, 2, p, r⟩) (a0 : -9223372036854775808 ≤ a) (a1 : a ≤ 9223372036854775807) (b0 : -9223372036854775808 ≤ b) (b1 : b ≤ 9223372036854775807) :
    Calls Tryz.prog 13 #[.agg #[.int .i64 op, .int .i64 a, .int .i64 b, .slice la zs.length cp]] w fun e w' => e = .returned (.tuple #[.string (sayB nm ⟨#[]⟩ a), .bool true]) ∧ Below w.heap.size w w' := by
  have hns : nm.size ≤ 100 := name_short hi
  have HLC := Lib.hid (ints_cells hl)
  have B0 : Below w.heap.size w (w.alloc (.cells #[.int .i64 op, .int .i64 a, .int .i64 b, .slice la zs.length cp] 40)) := (Below.refl _ _).alloc (Nat.le_refl _) _
  have h1 := rright_any op a b (.slice la zs.length cp) zs (w.alloc (.cells #[.int .i64 op, .int .i64 a, .int .i64 b, .slice la zs.length cp] 40)) h63 (intsAt_later hl B0)
  rw [hr] at h1
  have HI := Lib.hid hi
  obtain ⟨T, hT⟩ : ∃ T : ByteArray, (⟨(Lib.itoa a).toArray⟩ : ByteArray) = T := ⟨_, rfl⟩
  obtain ⟨U, hU⟩ : ∃ U : ByteArray, (⟨(Lib.itoa b).toArray⟩ : ByteArray) = U := ⟨_, rfl⟩
  have hTs : T.size ≤ 30 := by rw [← hT]; exact itoa_size a a0 a1
  have hUs : U.size ≤ 30 := by rw [← hU]; exact itoa_size b b0 b1
  have HDA := Lib.hid (show ∀ W, Calls Tryz.prog 45 #[.int .i64 a] W fun e w' => e = .returned (.string T) ∧ Below W.heap.size W w' from fun W => by rw [← hT]; exact rDigits_any a a0 a1 W)
  have HDB := Lib.hid (show ∀ W, Calls Tryz.prog 45 #[.int .i64 b] W fun e w' => e = .returned (.string U) ∧ Below W.heap.size W w' from fun W => by rw [← hU]; exact rDigits_any b b0 b1 W)
  have HT := Lib.hid hT
  have HU := Lib.hid hU
  clear hr hi hl hT hU
  go_enter Tryz.func13, Tryz.ntmps13
  go_wp2_with fail
  refine h1.mono ?_
  rintro e w1 ⟨rfl, c1⟩
  have x0 : w1.cell? ⟨w.heap.size, 0, none⟩ = some (.int .i64 op) := cell_later c1 (by simp)
  have X1 := Lib.hid (show w1.cell? ⟨w.heap.size, 1, none⟩ = some (.int .i64 a) from cell_later c1 (by simp))
  have X2 := Lib.hid (show w1.cell? ⟨w.heap.size, 2, none⟩ = some (.int .i64 b) from cell_later c1 (by simp))
  have X3 := Lib.hid (show w1.cell? ⟨w.heap.size, 3, none⟩ = some (.slice la zs.length cp) from cell_later c1 (by simp))
  have B1 := B0.trans (c1.mono B0.size)
  have hlt1 : w.heap.size < w1.heap.size := by have := c1.size; simp at this; omega
  clear c1 h1 B0
  go_wp2_with fail
  refine (rof_any op _ nm p r 2 true (by rw [HI.out]; rfl) (by rw [HI.out]; rfl)).mono ?_
  rintro e w2 ⟨rfl, c2⟩
  obtain ⟨W3, hW3⟩ : ∃ W3, w2.alloc (.cells #[.string nm, .int .i64 2, .string p, .string r] 80) = W3 := ⟨_, rfl⟩
  have C3 : Below w1.heap.size w1 W3 := by rw [← hW3]; exact c2.alloc c2.size _
  have z0 : W3.cell? ⟨w2.heap.size, 0, none⟩ = some (.string nm) := by rw [← hW3]; simp
  have z1 : W3.cell? ⟨w2.heap.size, 1, none⟩ = some (.int .i64 2) := by rw [← hW3]; simp
  have B3 := Lib.hid (B1.trans (C3.mono B1.size))
  have u1 := cell_later C3 X1.out
  have u2 := cell_later C3 X2.out
  have u3 := cell_later C3 X3.out
  have HW3 := Lib.hid hW3
  clear hW3 c2 C3 x0
  go_upto_region 5 with fail
  rw [HW3.out]
  clear HW3
  have zc : ¬ 9223372036854775807 < nm.size + 1 := by omega
  have zd : ¬ 9223372036854775807 < nm.size + 1 + T.size := by omega
  go_wp2_with fail
  refine (HDA.out _).mono ?_
  rintro e w4 ⟨rfl, c4⟩
  have B3 := Lib.hid (B3.out.trans (c4.mono B3.out.size))
  clear c4
  go_wp2_with fail
  go_ret2
  exact ⟨congrArg (fun s => Ending.returned (.tuple #[.string s, .bool true])) (say_eq nm T a HT.out), B3.out⟩
set_option maxRecDepth 100000 in
set_option maxHeartbeats 4000000 in
theorem rtx_4 (op a b : Int) (la : Option Addr) (cp : Nat) (zs : List Int) (nm p r : ByteArray) (w : World) (h63 : zs.length ≤ 9223372036854775807) (hl : IntsAt w (.slice la zs.length cp) zs) (hr : rightB op a b zs = true) (hi : opInfo op = some ⟨nm, 4, p, r⟩) (a0 : -9223372036854775808 ≤ a) (a1 : a ≤ 9223372036854775807) (b0 : -9223372036854775808 ≤ b) (b1 : b ≤ 9223372036854775807) :
    Calls Tryz.prog 13 #[.agg #[.int .i64 op, .int .i64 a, .int .i64 b, .slice la zs.length cp]] w fun e w' => e = .returned (.tuple #[.string (sayB nm ⟨#[]⟩ a), .bool true]) ∧ Below w.heap.size w w' := by
  have hns : nm.size ≤ 100 := name_short hi
  have HLC := Lib.hid (ints_cells hl)
  have B0 : Below w.heap.size w (w.alloc (.cells #[.int .i64 op, .int .i64 a, .int .i64 b, .slice la zs.length cp] 40)) := (Below.refl _ _).alloc (Nat.le_refl _) _
  have h1 := rright_any op a b (.slice la zs.length cp) zs (w.alloc (.cells #[.int .i64 op, .int .i64 a, .int .i64 b, .slice la zs.length cp] 40)) h63 (intsAt_later hl B0)
  rw [hr] at h1
  have HI := Lib.hid hi
  obtain ⟨T, hT⟩ : ∃ T : ByteArray, (⟨(Lib.itoa a).toArray⟩ : ByteArray) = T := ⟨_, rfl⟩
  obtain ⟨U, hU⟩ : ∃ U : ByteArray, (⟨(Lib.itoa b).toArray⟩ : ByteArray) = U := ⟨_, rfl⟩
  have hTs : T.size ≤ 30 := by rw [← hT]; exact itoa_size a a0 a1
  have hUs : U.size ≤ 30 := by rw [← hU]; exact itoa_size b b0 b1
  have HDA := Lib.hid (show ∀ W, Calls Tryz.prog 45 #[.int .i64 a] W fun e w' => e = .returned (.string T) ∧ Below W.heap.size W w' from fun W => by rw [← hT]; exact rDigits_any a a0 a1 W)
  have HDB := Lib.hid (show ∀ W, Calls Tryz.prog 45 #[.int .i64 b] W fun e w' => e = .returned (.string U) ∧ Below W.heap.size W w' from fun W => by rw [← hU]; exact rDigits_any b b0 b1 W)
  have HT := Lib.hid hT
  have HU := Lib.hid hU
  clear hr hi hl hT hU
  go_enter Tryz.func13, Tryz.ntmps13
  go_wp2_with fail
  refine h1.mono ?_
  rintro e w1 ⟨rfl, c1⟩
  have x0 : w1.cell? ⟨w.heap.size, 0, none⟩ = some (.int .i64 op) := cell_later c1 (by simp)
  have X1 := Lib.hid (show w1.cell? ⟨w.heap.size, 1, none⟩ = some (.int .i64 a) from cell_later c1 (by simp))
  have X2 := Lib.hid (show w1.cell? ⟨w.heap.size, 2, none⟩ = some (.int .i64 b) from cell_later c1 (by simp))
  have X3 := Lib.hid (show w1.cell? ⟨w.heap.size, 3, none⟩ = some (.slice la zs.length cp) from cell_later c1 (by simp))
  have B1 := B0.trans (c1.mono B0.size)
  have hlt1 : w.heap.size < w1.heap.size := by have := c1.size; simp at this; omega
  clear c1 h1 B0
  go_wp2_with fail
  refine (rof_any op _ nm p r 4 true (by rw [HI.out]; rfl) (by rw [HI.out]; rfl)).mono ?_
  rintro e w2 ⟨rfl, c2⟩
  obtain ⟨W3, hW3⟩ : ∃ W3, w2.alloc (.cells #[.string nm, .int .i64 4, .string p, .string r] 80) = W3 := ⟨_, rfl⟩
  have C3 : Below w1.heap.size w1 W3 := by rw [← hW3]; exact c2.alloc c2.size _
  have z0 : W3.cell? ⟨w2.heap.size, 0, none⟩ = some (.string nm) := by rw [← hW3]; simp
  have z1 : W3.cell? ⟨w2.heap.size, 1, none⟩ = some (.int .i64 4) := by rw [← hW3]; simp
  have B3 := Lib.hid (B1.trans (C3.mono B1.size))
  have u1 := cell_later C3 X1.out
  have u2 := cell_later C3 X2.out
  have u3 := cell_later C3 X3.out
  have HW3 := Lib.hid hW3
  clear hW3 c2 C3 x0
  go_upto_region 5 with fail
  rw [HW3.out]
  clear HW3
  have zc : ¬ 9223372036854775807 < nm.size + 1 := by omega
  have zd : ¬ 9223372036854775807 < nm.size + 1 + T.size := by omega
  go_wp2_with fail
  refine (HDA.out _).mono ?_
  rintro e w4 ⟨rfl, c4⟩
  have B3 := Lib.hid (B3.out.trans (c4.mono B3.out.size))
  clear c4
  go_wp2_with fail
  go_ret2
  exact ⟨congrArg (fun s => Ending.returned (.tuple #[.string s, .bool true])) (say_eq nm T a HT.out), B3.out⟩
set_option maxRecDepth 100000 in
set_option maxHeartbeats 4000000 in
theorem rtx_7 (op a b : Int) (la : Option Addr) (cp : Nat) (zs : List Int) (nm p r : ByteArray) (w : World) (h63 : zs.length ≤ 9223372036854775807) (hl : IntsAt w (.slice la zs.length cp) zs) (hr : rightB op a b zs = true) (hi : opInfo op = some ⟨nm, 7, p, r⟩) (a0 : -9223372036854775808 ≤ a) (a1 : a ≤ 9223372036854775807) (b0 : -9223372036854775808 ≤ b) (b1 : b ≤ 9223372036854775807) :
    Calls Tryz.prog 13 #[.agg #[.int .i64 op, .int .i64 a, .int .i64 b, .slice la zs.length cp]] w fun e w' => e = .returned (.tuple #[.string (sayB nm ⟨#[]⟩ a), .bool true]) ∧ Below w.heap.size w w' := by
  have hns : nm.size ≤ 100 := name_short hi
  have HLC := Lib.hid (ints_cells hl)
  have B0 : Below w.heap.size w (w.alloc (.cells #[.int .i64 op, .int .i64 a, .int .i64 b, .slice la zs.length cp] 40)) := (Below.refl _ _).alloc (Nat.le_refl _) _
  have h1 := rright_any op a b (.slice la zs.length cp) zs (w.alloc (.cells #[.int .i64 op, .int .i64 a, .int .i64 b, .slice la zs.length cp] 40)) h63 (intsAt_later hl B0)
  rw [hr] at h1
  have HI := Lib.hid hi
  obtain ⟨T, hT⟩ : ∃ T : ByteArray, (⟨(Lib.itoa a).toArray⟩ : ByteArray) = T := ⟨_, rfl⟩
  obtain ⟨U, hU⟩ : ∃ U : ByteArray, (⟨(Lib.itoa b).toArray⟩ : ByteArray) = U := ⟨_, rfl⟩
  have hTs : T.size ≤ 30 := by rw [← hT]; exact itoa_size a a0 a1
  have hUs : U.size ≤ 30 := by rw [← hU]; exact itoa_size b b0 b1
  have HDA := Lib.hid (show ∀ W, Calls Tryz.prog 45 #[.int .i64 a] W fun e w' => e = .returned (.string T) ∧ Below W.heap.size W w' from fun W => by rw [← hT]; exact rDigits_any a a0 a1 W)
  have HDB := Lib.hid (show ∀ W, Calls Tryz.prog 45 #[.int .i64 b] W fun e w' => e = .returned (.string U) ∧ Below W.heap.size W w' from fun W => by rw [← hU]; exact rDigits_any b b0 b1 W)
  have HT := Lib.hid hT
  have HU := Lib.hid hU
  clear hr hi hl hT hU
  go_enter Tryz.func13, Tryz.ntmps13
  go_wp2_with fail
  refine h1.mono ?_
  rintro e w1 ⟨rfl, c1⟩
  have x0 : w1.cell? ⟨w.heap.size, 0, none⟩ = some (.int .i64 op) := cell_later c1 (by simp)
  have X1 := Lib.hid (show w1.cell? ⟨w.heap.size, 1, none⟩ = some (.int .i64 a) from cell_later c1 (by simp))
  have X2 := Lib.hid (show w1.cell? ⟨w.heap.size, 2, none⟩ = some (.int .i64 b) from cell_later c1 (by simp))
  have X3 := Lib.hid (show w1.cell? ⟨w.heap.size, 3, none⟩ = some (.slice la zs.length cp) from cell_later c1 (by simp))
  have B1 := B0.trans (c1.mono B0.size)
  have hlt1 : w.heap.size < w1.heap.size := by have := c1.size; simp at this; omega
  clear c1 h1 B0
  go_wp2_with fail
  refine (rof_any op _ nm p r 7 true (by rw [HI.out]; rfl) (by rw [HI.out]; rfl)).mono ?_
  rintro e w2 ⟨rfl, c2⟩
  obtain ⟨W3, hW3⟩ : ∃ W3, w2.alloc (.cells #[.string nm, .int .i64 7, .string p, .string r] 80) = W3 := ⟨_, rfl⟩
  have C3 : Below w1.heap.size w1 W3 := by rw [← hW3]; exact c2.alloc c2.size _
  have z0 : W3.cell? ⟨w2.heap.size, 0, none⟩ = some (.string nm) := by rw [← hW3]; simp
  have z1 : W3.cell? ⟨w2.heap.size, 1, none⟩ = some (.int .i64 7) := by rw [← hW3]; simp
  have B3 := Lib.hid (B1.trans (C3.mono B1.size))
  have u1 := cell_later C3 X1.out
  have u2 := cell_later C3 X2.out
  have u3 := cell_later C3 X3.out
  have HW3 := Lib.hid hW3
  clear hW3 c2 C3 x0
  go_upto_region 5 with fail
  rw [HW3.out]
  clear HW3
  have zc : ¬ 9223372036854775807 < nm.size + 1 := by omega
  have zd : ¬ 9223372036854775807 < nm.size + 1 + T.size := by omega
  go_wp2_with fail
  refine (HDA.out _).mono ?_
  rintro e w4 ⟨rfl, c4⟩
  have B3 := Lib.hid (B3.out.trans (c4.mono B3.out.size))
  clear c4
  go_wp2_with fail
  go_ret2
  exact ⟨congrArg (fun s => Ending.returned (.tuple #[.string s, .bool true])) (say_eq nm T a HT.out), B3.out⟩
set_option maxRecDepth 100000 in
set_option maxHeartbeats 4000000 in
theorem rtx_5 (op a b : Int) (la : Option Addr) (cp : Nat) (zs : List Int) (nm p r : ByteArray) (w : World) (h63 : zs.length ≤ 9223372036854775807) (hl : IntsAt w (.slice la zs.length cp) zs) (hr : rightB op a b zs = true) (hi : opInfo op = some ⟨nm, 5, p, r⟩) (a0 : -9223372036854775808 ≤ a) (a1 : a ≤ 9223372036854775807) (b0 : -9223372036854775808 ≤ b) (b1 : b ≤ 9223372036854775807) :
    Calls Tryz.prog 13 #[.agg #[.int .i64 op, .int .i64 a, .int .i64 b, .slice la zs.length cp]] w fun e w' => e = .returned (.tuple #[.string (sayB (sayB nm ⟨#[111, 102, 102, 115, 101, 116, 61]⟩ b) ⟨#[97, 108, 105, 103, 110, 61]⟩ a), .bool true]) ∧ Below w.heap.size w w' := by
  have hns : nm.size ≤ 100 := name_short hi
  have HLC := Lib.hid (ints_cells hl)
  have B0 : Below w.heap.size w (w.alloc (.cells #[.int .i64 op, .int .i64 a, .int .i64 b, .slice la zs.length cp] 40)) := (Below.refl _ _).alloc (Nat.le_refl _) _
  have h1 := rright_any op a b (.slice la zs.length cp) zs (w.alloc (.cells #[.int .i64 op, .int .i64 a, .int .i64 b, .slice la zs.length cp] 40)) h63 (intsAt_later hl B0)
  rw [hr] at h1
  have HI := Lib.hid hi
  obtain ⟨T, hT⟩ : ∃ T : ByteArray, (⟨(Lib.itoa a).toArray⟩ : ByteArray) = T := ⟨_, rfl⟩
  obtain ⟨U, hU⟩ : ∃ U : ByteArray, (⟨(Lib.itoa b).toArray⟩ : ByteArray) = U := ⟨_, rfl⟩
  have hTs : T.size ≤ 30 := by rw [← hT]; exact itoa_size a a0 a1
  have hUs : U.size ≤ 30 := by rw [← hU]; exact itoa_size b b0 b1
  have HDA := Lib.hid (show ∀ W, Calls Tryz.prog 45 #[.int .i64 a] W fun e w' => e = .returned (.string T) ∧ Below W.heap.size W w' from fun W => by rw [← hT]; exact rDigits_any a a0 a1 W)
  have HDB := Lib.hid (show ∀ W, Calls Tryz.prog 45 #[.int .i64 b] W fun e w' => e = .returned (.string U) ∧ Below W.heap.size W w' from fun W => by rw [← hU]; exact rDigits_any b b0 b1 W)
  have HT := Lib.hid hT
  have HU := Lib.hid hU
  clear hr hi hl hT hU
  go_enter Tryz.func13, Tryz.ntmps13
  go_wp2_with fail
  refine h1.mono ?_
  rintro e w1 ⟨rfl, c1⟩
  have x0 : w1.cell? ⟨w.heap.size, 0, none⟩ = some (.int .i64 op) := cell_later c1 (by simp)
  have X1 := Lib.hid (show w1.cell? ⟨w.heap.size, 1, none⟩ = some (.int .i64 a) from cell_later c1 (by simp))
  have X2 := Lib.hid (show w1.cell? ⟨w.heap.size, 2, none⟩ = some (.int .i64 b) from cell_later c1 (by simp))
  have X3 := Lib.hid (show w1.cell? ⟨w.heap.size, 3, none⟩ = some (.slice la zs.length cp) from cell_later c1 (by simp))
  have B1 := B0.trans (c1.mono B0.size)
  have hlt1 : w.heap.size < w1.heap.size := by have := c1.size; simp at this; omega
  clear c1 h1 B0
  go_wp2_with fail
  refine (rof_any op _ nm p r 5 true (by rw [HI.out]; rfl) (by rw [HI.out]; rfl)).mono ?_
  rintro e w2 ⟨rfl, c2⟩
  obtain ⟨W3, hW3⟩ : ∃ W3, w2.alloc (.cells #[.string nm, .int .i64 5, .string p, .string r] 80) = W3 := ⟨_, rfl⟩
  have C3 : Below w1.heap.size w1 W3 := by rw [← hW3]; exact c2.alloc c2.size _
  have z0 : W3.cell? ⟨w2.heap.size, 0, none⟩ = some (.string nm) := by rw [← hW3]; simp
  have z1 : W3.cell? ⟨w2.heap.size, 1, none⟩ = some (.int .i64 5) := by rw [← hW3]; simp
  have B3 := Lib.hid (B1.trans (C3.mono B1.size))
  have u1 := cell_later C3 X1.out
  have u2 := cell_later C3 X2.out
  have u3 := cell_later C3 X3.out
  have HW3 := Lib.hid hW3
  clear hW3 c2 C3 x0
  go_upto_region 5 with fail
  rw [HW3.out]
  clear HW3
  have zc : ¬ 9223372036854775807 < nm.size + 8 := by omega
  have zd : ¬ 9223372036854775807 < nm.size + 8 + U.size := by omega
  have ze : ¬ 9223372036854775807 < nm.size + 8 + U.size + 7 := by omega
  have zf : ¬ 9223372036854775807 < nm.size + 8 + U.size + 7 + T.size := by omega
  go_upto_region 19 with fail
  have HZ := Lib.hid (show HeldX w a b W3.drew from ⟨u1, u2, B3.out.drew⟩)
  clear u1 u2 u3 z0 z1
  refine wp_region_held_drew (S := fun W => HeldX w a b W) (by kernel_rfl) HZ.out (fun hHeld => ?_)
  refine take_yes (i := 0) (d := (some 61)) (v := ?_) rfl (by kernel_rfl) (by kernel_rfl) (by kernel_rfl) rfl (fun _ _ _ h => h) (by rfl) (by assumption) ?_ ?_
  rotate_left
  · (intro w hSw; (try dsimp only at hSw); go_simp; try with_reducible rfl)
  try simp only [Act.put, List.setIfInBounds_toArray, List.set_cons_zero, List.set_cons_succ]
  refine take_yes (i := 1) (d := (some 62)) (v := ?_) rfl (by kernel_rfl) (by kernel_rfl) (by kernel_rfl) rfl (fun _ _ _ h => h) (by rfl) (by assumption) ?_ ?_
  rotate_left
  · (intro w hSw; (try dsimp only at hSw); go_simp; try with_reducible rfl)
  try simp only [Act.put, List.setIfInBounds_toArray, List.set_cons_zero, List.set_cons_succ]
  refine take_yes (i := 2) (d := (some 63)) (v := ?_) rfl (by kernel_rfl) (by kernel_rfl) (by kernel_rfl) rfl (fun _ _ _ h => h) (by rfl) (by assumption) ?_ ?_
  rotate_left
  · (intro w hSw; (try dsimp only at hSw); go_simp; try with_reducible rfl)
  try simp only [Act.put, List.setIfInBounds_toArray, List.set_cons_zero, List.set_cons_succ]
  refine take_yes (i := 3) (d := (some 64)) (v := ?_) rfl (by kernel_rfl) (by kernel_rfl) (by kernel_rfl) rfl (fun _ _ _ h => h) (by rfl) (by assumption) ?_ ?_
  rotate_left
  · (intro w hSw; (try dsimp only at hSw); go_simp; try with_reducible rfl)
  try simp only [Act.put, List.setIfInBounds_toArray, List.set_cons_zero, List.set_cons_succ]
  refine take_yes (i := 7) (d := (some 68)) (v := ?_) rfl (by kernel_rfl) (by kernel_rfl) (by kernel_rfl) rfl (fun _ _ _ h => h) (by rfl) (by assumption) ?_ ?_
  rotate_left
  · (intro w hSw; (try dsimp only at hSw); go_simp; try with_reducible rfl)
  try simp only [Act.put, List.setIfInBounds_toArray, List.set_cons_zero, List.set_cons_succ]
  refine take_yes (i := 8) (d := (some 69)) (v := ?_) rfl (by kernel_rfl) (by kernel_rfl) (by kernel_rfl) rfl (fun _ _ _ h => h) (by rfl) (by assumption) ?_ ?_
  rotate_left
  · (intro w hSw; (try dsimp only at hSw); go_simp; try with_reducible rfl)
  try simp only [Act.put, List.setIfInBounds_toArray, List.set_cons_zero, List.set_cons_succ]
  refine wpAnyH_ready (rs := [4]) (by kernel_rfl) (by simp) ?_
  refine AllReadyH.cons (o := _) rfl (fun K hK => ?_) AllReadyH.nil
  go_simp
  go_at_call 45
  refine (HDB.out _).mono ?_
  rintro e W4 ⟨rfl, c4⟩
  go_wp2_with fail
  refine hK.out _ _ (heldX_later c4 hHeld) (fun hHeld => ?_)
  clear c4
  clear hK K
  try simp only [Act.put, List.setIfInBounds_toArray, List.set_cons_zero, List.set_cons_succ]
  refine take_yes (i := 5) (d := (some 66)) (v := ?_) rfl (by kernel_rfl) (by kernel_rfl) (by kernel_rfl) rfl (fun _ _ _ h => h) (by rfl) (by assumption) ?_ ?_
  rotate_left
  · (intro w hSw; (try dsimp only at hSw); go_simp; try with_reducible rfl)
  try simp only [Act.put, List.setIfInBounds_toArray, List.set_cons_zero, List.set_cons_succ]
  refine take_yes (i := 6) (d := (some 67)) (v := ?_) rfl (by kernel_rfl) (by kernel_rfl) (by kernel_rfl) rfl (fun _ _ _ h => h) (by rfl) (by assumption) ?_ ?_
  rotate_left
  · (intro w hSw; (try dsimp only at hSw); go_simp; try with_reducible rfl)
  try simp only [Act.put, List.setIfInBounds_toArray, List.set_cons_zero, List.set_cons_succ]
  refine wpAnyH_ready (rs := [9]) (by kernel_rfl) (by simp) ?_
  refine AllReadyH.cons (o := _) rfl (fun K hK => ?_) AllReadyH.nil
  go_simp
  go_at_call 45
  refine (HDA.out _).mono ?_
  rintro e W4 ⟨rfl, c4⟩
  go_wp2_with fail
  refine hK.out _ _ (heldX_later c4 hHeld) (fun hHeld => ?_)
  clear c4
  clear hK K
  try simp only [Act.put, List.setIfInBounds_toArray, List.set_cons_zero, List.set_cons_succ]
  refine take_yes (i := 10) (d := (some 71)) (v := ?_) rfl (by kernel_rfl) (by kernel_rfl) (by kernel_rfl) rfl (fun _ _ _ h => h) (by rfl) (by assumption) ?_ ?_
  rotate_left
  · (intro w hSw; (try dsimp only at hSw); go_simp; try with_reducible rfl)
  try simp only [Act.put, List.setIfInBounds_toArray, List.set_cons_zero, List.set_cons_succ]
  refine take_yes (i := 11) (d := (some 7)) (v := ?_) rfl (by kernel_rfl) (by kernel_rfl) (by kernel_rfl) rfl (fun _ _ _ h => h) (by rfl) (by assumption) ?_ ?_
  rotate_left
  · (intro w hSw; (try dsimp only at hSw); go_simp; try with_reducible rfl)
  try simp only [Act.put, List.setIfInBounds_toArray, List.set_cons_zero, List.set_cons_succ]
  refine wpAnyH_done (by kernel_rfl) ?_ _
  have B3 := Lib.hid hHeld.2.2
  go_wp2_with fail
  go_ret2
  exact ⟨congrArg (fun s => Ending.returned (.tuple #[.string s, .bool true])) (say_eq2 nm U T a b HU.out HT.out), B3.out⟩
set_option maxRecDepth 100000 in
set_option maxHeartbeats 4000000 in
theorem rtx_3 (op a b : Int) (la : Option Addr) (cp : Nat) (zs : List Int) (nm p r : ByteArray) (w : World) (h63 : zs.length ≤ 9223372036854775807) (hl : IntsAt w (.slice la zs.length cp) zs) (hr : rightB op a b zs = true) (hi : opInfo op = some ⟨nm, 3, p, r⟩) (a0 : -9223372036854775808 ≤ a) (a1 : a ≤ 9223372036854775807) (b0 : -9223372036854775808 ≤ b) (b1 : b ≤ 9223372036854775807) (hz : ∀ z ∈ zs, -9223372036854775808 ≤ z ∧ z ≤ 9223372036854775807) :
    Calls Tryz.prog 13 #[.agg #[.int .i64 op, .int .i64 a, .int .i64 b, .slice la zs.length cp]] w fun e w' => e = .returned (.tuple #[.string (sayB (labsB nm zs) ⟨#[]⟩ a), .bool true]) ∧ Below w.heap.size w w' := by
  have hfew := labels_few hi hr
  have HSZ := Lib.hid (labsB_size nm (name_short hi) zs hz)
  have HZ := Lib.hid hz
  clear hz
  have hns : nm.size ≤ 100 := name_short hi
  have HLC := Lib.hid (ints_cells hl)
  have B0 : Below w.heap.size w (w.alloc (.cells #[.int .i64 op, .int .i64 a, .int .i64 b, .slice la zs.length cp] 40)) := (Below.refl _ _).alloc (Nat.le_refl _) _
  have h1 := rright_any op a b (.slice la zs.length cp) zs (w.alloc (.cells #[.int .i64 op, .int .i64 a, .int .i64 b, .slice la zs.length cp] 40)) h63 (intsAt_later hl B0)
  rw [hr] at h1
  have HI := Lib.hid hi
  obtain ⟨T, hT⟩ : ∃ T : ByteArray, (⟨(Lib.itoa a).toArray⟩ : ByteArray) = T := ⟨_, rfl⟩
  obtain ⟨U, hU⟩ : ∃ U : ByteArray, (⟨(Lib.itoa b).toArray⟩ : ByteArray) = U := ⟨_, rfl⟩
  have hTs : T.size ≤ 30 := by rw [← hT]; exact itoa_size a a0 a1
  have hUs : U.size ≤ 30 := by rw [← hU]; exact itoa_size b b0 b1
  have HDA := Lib.hid (show ∀ W, Calls Tryz.prog 45 #[.int .i64 a] W fun e w' => e = .returned (.string T) ∧ Below W.heap.size W w' from fun W => by rw [← hT]; exact rDigits_any a a0 a1 W)
  have HDB := Lib.hid (show ∀ W, Calls Tryz.prog 45 #[.int .i64 b] W fun e w' => e = .returned (.string U) ∧ Below W.heap.size W w' from fun W => by rw [← hU]; exact rDigits_any b b0 b1 W)
  have HT := Lib.hid hT
  have HU := Lib.hid hU
  clear hr hi hl hT hU
  go_enter Tryz.func13, Tryz.ntmps13
  go_wp2_with fail
  refine h1.mono ?_
  rintro e w1 ⟨rfl, c1⟩
  have x0 : w1.cell? ⟨w.heap.size, 0, none⟩ = some (.int .i64 op) := cell_later c1 (by simp)
  have X1 := Lib.hid (show w1.cell? ⟨w.heap.size, 1, none⟩ = some (.int .i64 a) from cell_later c1 (by simp))
  have X2 := Lib.hid (show w1.cell? ⟨w.heap.size, 2, none⟩ = some (.int .i64 b) from cell_later c1 (by simp))
  have X3 := Lib.hid (show w1.cell? ⟨w.heap.size, 3, none⟩ = some (.slice la zs.length cp) from cell_later c1 (by simp))
  have B1 := B0.trans (c1.mono B0.size)
  have hlt1 : w.heap.size < w1.heap.size := by have := c1.size; simp at this; omega
  clear c1 h1 B0
  go_wp2_with fail
  refine (rof_any op _ nm p r 3 true (by rw [HI.out]; rfl) (by rw [HI.out]; rfl)).mono ?_
  rintro e w2 ⟨rfl, c2⟩
  obtain ⟨W3, hW3⟩ : ∃ W3, w2.alloc (.cells #[.string nm, .int .i64 3, .string p, .string r] 80) = W3 := ⟨_, rfl⟩
  have C3 : Below w1.heap.size w1 W3 := by rw [← hW3]; exact c2.alloc c2.size _
  have z0 : W3.cell? ⟨w2.heap.size, 0, none⟩ = some (.string nm) := by rw [← hW3]; simp
  have z1 : W3.cell? ⟨w2.heap.size, 1, none⟩ = some (.int .i64 3) := by rw [← hW3]; simp
  have B3 := Lib.hid (B1.trans (C3.mono B1.size))
  have u1 := cell_later C3 X1.out
  have u2 := cell_later C3 X2.out
  have u3 := cell_later C3 X3.out
  have HW3 := Lib.hid hW3
  clear hW3 c2 C3 x0
  go_upto_region 5 with fail
  rw [HW3.out]
  clear HW3
  go_wp2_with fail
  clear z0 z1
  have U1 := Lib.hid u1
  have U3 := Lib.hid u3
  clear u1 u2 u3
  obtain ⟨w3, rfl⟩ : ∃ w3, w3 = W3 := ⟨_, rfl⟩
  go_loopw [7, 8] (fun s i wr => ∃ k : Nat, k ≤ zs.length ∧ i = .int .i64 k ∧ s = .string (labsB nm (zs.take k)) ∧ Below w3.heap.size w3 wr) (fun _ i _ => zs.length - (Go.RowKit.intOf i).toNat)
  case atStart => exact ⟨0, Nat.zero_le _, rfl, by rw [List.take_zero]; rfl, Below.refl _ _⟩
  case round =>
    obtain ⟨k, hk, rfl, rfl, hB⟩ := hrel
    have HB := Lib.hid hB
    have BW := Lib.hid (B3.out.trans (hB.mono B3.out.size))
    have q3 := cell_later hB U3.out
    obtain ⟨O, hO⟩ : ∃ O, labsB nm (zs.take k) = O := ⟨_, rfl⟩
    have hOs : O.size ≤ 100 + 131 * k := by rw [← hO]; exact HSZ.out k
    rw [hO]
    have HOO := Lib.hid hO
    clear hB hO
    by_cases hlt : k < zs.length
    · have d1 : decide ((k : Int) < (zs.length : Int)) = true := decide_eq_true (by omega)
      have d1' : decide (k < zs.length) = true := decide_eq_true hlt
      obtain ⟨z, hm⟩ : ∃ z, zs[k]? = some z := ⟨_, List.getElem?_eq_getElem hlt⟩
      obtain ⟨lb, lo, rfl, hq⟩ := HLC.out k z hm
      have q : wr.cell? ⟨lb, lo + k, none⟩ = some (.int .i64 z) := cell_later BW.out hq
      have HZB := Lib.hid (HZ.out z (List.mem_of_getElem? hm))
      obtain ⟨X, hX⟩ : ∃ X : ByteArray, (⟨(Lib.itoa z).toArray⟩ : ByteArray) = X := ⟨_, rfl⟩
      have hXs : X.size ≤ 30 := by rw [← hX]; exact itoa_size z HZB.out.1 HZB.out.2
      have HDZ := Lib.hid (show Calls Tryz.prog 45 #[.int .i64 z] wr fun e w' => e = .returned (.string X) ∧ Below wr.heap.size wr w' by rw [← hX]; exact rDigits_any z HZB.out.1 HZB.out.2 wr)
      have HN := Lib.hid (show labsB nm (zs.take (k + 1)) = O ++ ⟨#[32]⟩ ++ X by rw [labsB_succ nm hm, HOO.out, say_eq O X z hX])
      have zc : ¬ 9223372036854775807 < O.size + 1 := by omega
      have zd : ¬ 9223372036854775807 < O.size + 1 + X.size := by omega
      clear hm hq hX
      go_wp2_with fail
      refine HDZ.out.mono ?_
      rintro e w5 ⟨rfl, c5⟩
      have HB5 := Lib.hid (HB.out.trans (c5.mono HB.out.size))
      clear c5 q q3
      go_wp2_with fail
      go_roundw
      case rel => exact ⟨k + 1, by omega, by go_num, by rw [HN.out], HB5.out⟩
      case measure => simp [Go.RowKit.intOf]; omega
    · obtain rfl : k = zs.length := by omega
      have d1 : decide ((zs.length : Int) < (zs.length : Int)) = false := decide_eq_false (by omega)
      have d1' : decide (zs.length < zs.length) = false := decide_eq_false hlt
      have q1 := cell_later HB.out U1.out
      have HOL := Lib.hid (show labsB nm zs = O by have h9 := HOO.out; rw [List.take_length] at h9; exact h9)
      have zc : ¬ 9223372036854775807 < O.size + 1 := by omega
      have zd : ¬ 9223372036854775807 < O.size + 1 + T.size := by omega
      go_wp2_with fail
      refine (HDA.out _).mono ?_
      rintro e w5 ⟨rfl, c5⟩
      have B5 := Lib.hid (BW.out.trans (c5.mono BW.out.size))
      clear c5
      go_wp2_with fail
      go_ret2
      exact ⟨congrArg (fun s => Ending.returned (.tuple #[.string s, .bool true])) (by rw [HOL.out]; exact say_eq O T a HT.out), B5.out⟩
set_option maxRecDepth 100000 in
theorem rtx_no (op a b : Int) (lv : Value) (zs : List Int) (w : World) (h63 : zs.length ≤ 9223372036854775807) (hl : IntsAt w lv zs) (hr : rightB op a b zs = false) :
    Calls Tryz.prog 13 #[.agg #[.int .i64 op, .int .i64 a, .int .i64 b, lv]] w fun e w' => e = .returned (.tuple #[.string ⟨#[]⟩, .bool false]) ∧ Below w.heap.size w w' := by
  have B0 : Below w.heap.size w (w.alloc (.cells #[.int .i64 op, .int .i64 a, .int .i64 b, lv] 40)) := (Below.refl _ _).alloc (Nat.le_refl _) _
  have h1 := rright_any op a b lv zs (w.alloc (.cells #[.int .i64 op, .int .i64 a, .int .i64 b, lv] 40)) h63 (intsAt_later hl B0)
  rw [hr] at h1
  clear hr hl
  go_enter Tryz.func13, Tryz.ntmps13
  go_wp2_with fail
  refine h1.mono ?_
  rintro e w1 ⟨rfl, c1⟩
  go_wp2_with fail
  go_ret2
  exact ⟨rfl, B0.trans (c1.mono B0.size)⟩
theorem rtextI_any (op a b : Int) (zs : List Int) (lv : Value) (w : World) (hl : IntsAt w lv zs) (ho : InsOk ⟨op, a, b, zs⟩) :
    Calls Tryz.prog 13 #[.agg #[.int .i64 op, .int .i64 a, .int .i64 b, lv]] w fun e w' => e = .returned (.tuple #[.string ((textI op a b zs).getD ⟨#[]⟩), .bool (textI op a b zs).isSome]) ∧ Below w.heap.size w w' := by
  obtain ⟨a0, a1⟩ := wfB ho.a
  obtain ⟨b0, b1⟩ := wfB ho.b
  change -9223372036854775808 ≤ a at a0
  change a ≤ 9223372036854775807 at a1
  change -9223372036854775808 ≤ b at b0
  change b ≤ 9223372036854775807 at b1
  have h63 : zs.length ≤ 9223372036854775807 := by have h9 := ho.len; change zs.length * 8 ≤ _ at h9; omega
  obtain ⟨la, cp, rfl⟩ := intsAt_form hl
  cases hr : rightB op a b zs with
  | false =>
    rw [show textI op a b zs = none by unfold textI; rw [hr]; rfl]
    exact rtx_no op a b _ zs w h63 hl hr
  | true =>
    obtain ⟨⟨nm, sh, p, r⟩, hi⟩ := right_info hr
    rw [show textI op a b zs = some (textN nm sh a b zs) by unfold textI; rw [hr, hi]; rfl]
    show Calls Tryz.prog _ _ w fun e w' => e = .returned (.tuple #[.string (textN nm sh a b zs), .bool true]) ∧ Below w.heap.size w w'
    have hs := shape_range hi
    change 0 ≤ sh ∧ sh ≤ 7 at hs
    rcases (show sh = 0 ∨ sh = 1 ∨ sh = 2 ∨ sh = 3 ∨ sh = 4 ∨ sh = 5 ∨ sh = 6 ∨ sh = 7 by omega) with rfl | rfl | rfl | rfl | rfl | rfl | rfl | rfl
    · exact rtx_0 op a b la cp zs nm p r w h63 hl hr hi a0 a1 b0 b1
    · obtain rfl := right_nolab hi hr (by decide)
      rcases right_block hi hr with rfl | rfl | rfl
      · exact rtx_1a op _ b la cp [] nm p r w h63 hl hr hi a0 a1 b0 b1 rfl
      · exact rtx_1b op _ b la cp [] nm p r w h63 hl hr hi a0 a1 b0 b1 rfl
      · exact rtx_1c op _ b la cp [] nm p r w h63 hl hr hi a0 a1 b0 b1 rfl
    · exact rtx_2 op a b la cp zs nm p r w h63 hl hr hi a0 a1 b0 b1
    · exact rtx_3 op a b la cp zs nm p r w h63 hl hr hi a0 a1 b0 b1 (fun z hz => wfB (ho.labels z hz))
    · exact rtx_4 op a b la cp zs nm p r w h63 hl hr hi a0 a1 b0 b1
    · exact rtx_5 op a b la cp zs nm p r w h63 hl hr hi a0 a1 b0 b1
    · exact rtx_6 op a b la cp zs nm p r w h63 hl hr hi a0 a1 b0 b1
    · exact rtx_7 op a b la cp zs nm p r w h63 hl hr hi a0 a1 b0 b1
end Go.Proofs.YtkemaonhchklmaaGreatDoor.Mod

/- ModRefH: What the reference's SameInstr of chapter 4 answers. No condition but that the labels have room. -/
namespace Go.Proofs.YtkemaonhchklmaaGreatDoor.Mod
open Go.RowKit Go.Maps Go.Proofs.YtkemaonhchklmaaGreatDoor.Op
set_option linter.unusedVariables false
set_option linter.unusedSimpArgs false
theorem drop_eq_cons {zs ys : List Int} {k : Nat} {z y : Int} (hz : zs[k]? = some z) (hy : ys[k]? = some y) : (zs.drop k == ys.drop k) = ((z == y) && (zs.drop (k + 1) == ys.drop (k + 1))) := by
  obtain ⟨h1, e1⟩ := List.getElem?_eq_some_iff.1 hz
  obtain ⟨h2, e2⟩ := List.getElem?_eq_some_iff.1 hy
  rw [List.drop_eq_getElem_cons h1, List.drop_eq_getElem_cons h2, e1, e2]
  rfl
set_option maxRecDepth 100000 in
set_option maxHeartbeats 4000000 in
theorem rsameI_any (o a b o2 a2 b2 : Int) (la mb : Option Addr) (c d : Nat) (zs ys : List Int) (w : World) (hz : IntsAt w (.slice la zs.length c) zs) (hy : IntsAt w (.slice mb ys.length d) ys) (hz2 : zs.length ≤ 4611686018427387904) (hy2 : ys.length ≤ 4611686018427387904) (ANS : Bool) (hA : sameIns ⟨o, a, b, zs⟩ ⟨o2, a2, b2, ys⟩ = ANS) :
    Calls Tryz.prog 89 #[.agg #[.int .i64 o, .int .i64 a, .int .i64 b, .slice la zs.length c], .agg #[.int .i64 o2, .int .i64 a2, .int .i64 b2, .slice mb ys.length d]] w fun e w' => e = .returned (.bool ANS) ∧ Below w.heap.size w w' := by
  have HLZ := Lib.hid (ints_cells hz)
  have HLY := Lib.hid (ints_cells hy)
  have HANS := Lib.hid (show (o == o2 && (a == a2 && (b == b2 && zs == ys))) = ANS from hA)
  obtain ⟨W1, hW1⟩ : ∃ W1, (w.alloc (.cells #[.int .i64 o, .int .i64 a, .int .i64 b, .slice la zs.length c] 40)).alloc (.cells #[.int .i64 o2, .int .i64 a2, .int .i64 b2, .slice mb ys.length d] 40) = W1 := ⟨_, rfl⟩
  have B0 := Lib.hid (show Below w.heap.size w W1 by rw [← hW1]; exact ((Below.refl _ _).alloc (Nat.le_refl _) _).alloc (by simp) _)
  have q0 : W1.cell? ⟨w.heap.size, 0, none⟩ = some (.int .i64 o) := by rw [← hW1]; simp
  have q1 : W1.cell? ⟨w.heap.size, 1, none⟩ = some (.int .i64 a) := by rw [← hW1]; simp
  have q2 : W1.cell? ⟨w.heap.size, 2, none⟩ = some (.int .i64 b) := by rw [← hW1]; simp
  have q3 : W1.cell? ⟨w.heap.size, 3, none⟩ = some (.slice la zs.length c) := by rw [← hW1]; simp
  have p0 : W1.cell? ⟨w.heap.size + 1, 0, none⟩ = some (.int .i64 o2) := by rw [← hW1]; simp
  have p1 : W1.cell? ⟨w.heap.size + 1, 1, none⟩ = some (.int .i64 a2) := by rw [← hW1]; simp
  have p2 : W1.cell? ⟨w.heap.size + 1, 2, none⟩ = some (.int .i64 b2) := by rw [← hW1]; simp
  have p3 : W1.cell? ⟨w.heap.size + 1, 3, none⟩ = some (.slice mb ys.length d) := by rw [← hW1]; simp
  have HW1 := Lib.hid hW1
  have Q3 := Lib.hid q3
  have P3 := Lib.hid p3
  clear hz hy hA hW1
  go_enter Tryz.func89, Tryz.ntmps89
  go_upto_region 1 with fail
  rw [HW1.out]
  cases e1 : (o == o2)
  · have e1' : (o != o2) = true := by rw [bne, e1]; rfl
    have HF := Lib.hid (show ANS = false by rw [← HANS.out, e1]; rfl)
    go_wp2_with fail
    go_ret
    exact ⟨by rw [HF.out]; rfl, B0.out⟩
  have e1' : (o != o2) = false := by rw [bne, e1]; rfl
  cases e2 : (a == a2)
  · have e2' : (a != a2) = true := by rw [bne, e2]; rfl
    have HF := Lib.hid (show ANS = false by rw [← HANS.out, e2]; simp)
    go_wp2_with fail
    go_ret
    exact ⟨by rw [HF.out]; rfl, B0.out⟩
  have e2' : (a != a2) = false := by rw [bne, e2]; rfl
  cases e3 : (b == b2)
  · have e3' : (b != b2) = true := by rw [bne, e3]; rfl
    have HF := Lib.hid (show ANS = false by rw [← HANS.out, e3]; simp)
    go_wp2_with fail
    go_ret
    exact ⟨by rw [HF.out]; rfl, B0.out⟩
  have e3' : (b != b2) = false := by rw [bne, e3]; rfl
  have HZY := Lib.hid (show (zs == ys) = ANS by rw [← HANS.out, e1, e2, e3]; rfl)
  by_cases hl : zs.length = ys.length
  · have e4 : ((zs.length : Int) == (ys.length : Int)) = true := by rw [beq_iff_eq]; omega
    have e4' : ((zs.length : Int) != (ys.length : Int)) = false := by rw [bne, e4]; rfl
    have HL := Lib.hid hl
    clear hl
    go_wp2_with fail
    clear q0 q1 q2 q3 p0 p1 p2 p3 e1 e1' e2 e2' e3 e3' e4 e4'
    go_loopw [5] (fun i wr => ∃ k : Nat, k ≤ zs.length ∧ i = .int .i64 k ∧ (zs.drop k == ys.drop k) = ANS ∧ Below W1.heap.size W1 wr) (fun i _ => zs.length - (Go.RowKit.intOf i).toNat)
    case atStart => exact ⟨0, Nat.zero_le _, rfl, HZY.out, Below.refl _ _⟩
    case round =>
      obtain ⟨k, hk, rfl, ha, hB⟩ := hrel
      have HA := Lib.hid ha
      have HB := Lib.hid hB
      have BW := Lib.hid (B0.out.trans (hB.mono B0.out.size))
      have q3 := cell_later hB Q3.out
      have p3 := cell_later hB P3.out
      clear ha hB
      by_cases hlt : k < zs.length
      · have d1 : decide ((k : Int) < (zs.length : Int)) = true := decide_eq_true (by omega)
        have d1' : decide (k < zs.length) = true := decide_eq_true hlt
        obtain ⟨z, hm⟩ : ∃ z, zs[k]? = some z := ⟨_, List.getElem?_eq_getElem hlt⟩
        obtain ⟨y, hn⟩ : ∃ y, ys[k]? = some y := ⟨_, List.getElem?_eq_getElem (by have := HL.out; omega)⟩
        obtain ⟨lb, lo, rfl, hq⟩ := HLZ.out k z hm
        obtain ⟨mb', mo, rfl, hp⟩ := HLY.out k y hn
        have qz : wr.cell? ⟨lb, lo + k, none⟩ = some (.int .i64 z) := cell_later BW.out hq
        have py : wr.cell? ⟨mb', mo + k, none⟩ = some (.int .i64 y) := cell_later BW.out hp
        have hlty : k < ys.length := by have := HL.out; omega
        have hltz : (k : Int) < (zs.length : Int) := by omega
        have hlty2 : (k : Int) < (ys.length : Int) := by omega
        have HD := Lib.hid (drop_eq_cons hm hn)
        clear hm hn hq hp
        cases e5 : (z == y)
        · have e5' : (z != y) = true := by rw [bne, e5]; rfl
          have HF := Lib.hid (show ANS = false by rw [← HA.out, HD.out, e5]; rfl)
          go_upto_region 6 with fail
          go_quiet (fail)
          go_wp2_with fail
          go_ret
          exact ⟨by rw [HF.out]; rfl, BW.out.trans ⟨rfl, rfl, rfl, Nat.le_refl _, fun _ _ => rfl⟩⟩
        · have e5' : (z != y) = false := by rw [bne, e5]; rfl
          have HN := Lib.hid (show (zs.drop (k + 1) == ys.drop (k + 1)) = ANS by rw [← HA.out, HD.out, e5]; rfl)
          go_upto_region 6 with fail
          go_quiet (fail)
          go_wp2_with fail
          go_roundw
          case rel => exact ⟨k + 1, by omega, by go_num, HN.out, HB.out.trans ⟨rfl, rfl, rfl, Nat.le_refl _, fun _ _ => rfl⟩⟩
          case measure => simp [Go.RowKit.intOf]; omega
      · obtain rfl : k = zs.length := by omega
        have d1 : decide ((zs.length : Int) < (zs.length : Int)) = false := decide_eq_false (by omega)
        have d1' : decide (zs.length < zs.length) = false := decide_eq_false hlt
        have HT := Lib.hid (show ANS = true by rw [← HA.out, List.drop_length, HL.out, List.drop_length]; rfl)
        go_wp2_with fail
        go_ret
        exact ⟨by rw [HT.out]; rfl, BW.out⟩
  · have e4 : ((zs.length : Int) == (ys.length : Int)) = false := by rw [beq_eq_false_iff_ne]; omega
    have e4' : ((zs.length : Int) != (ys.length : Int)) = true := by rw [bne, e4]; rfl
    have HF := Lib.hid (show ANS = false by rw [← HZY.out, beq_eq_false_iff_ne]; exact fun h => hl (by rw [h]))
    clear hl
    go_wp2_with fail
    go_ret
    exact ⟨by rw [HF.out]; rfl, B0.out⟩
end Go.Proofs.YtkemaonhchklmaaGreatDoor.Mod

/- ModRefI: What the reference's sameFunc of chapter 4 answers. No condition but that the labels have room. -/
namespace Go.Proofs.YtkemaonhchklmaaGreatDoor.Mod
open Go.RowKit Go.Maps Go.Proofs.YtkemaonhchklmaaGreatDoor.Op
set_option linter.unusedVariables false
set_option linter.unusedSimpArgs false
theorem sameL_drop {α : Type} {eq : α → α → Bool} {l m : List α} {k : Nat} {x y : α} (hx : l[k]? = some x) (hy : m[k]? = some y) : sameL eq (l.drop k) (m.drop k) = (eq x y && sameL eq (l.drop (k + 1)) (m.drop (k + 1))) := by
  obtain ⟨h1, e1⟩ := List.getElem?_eq_some_iff.1 hx
  obtain ⟨h2, e2⟩ := List.getElem?_eq_some_iff.1 hy
  rw [List.drop_eq_getElem_cons h1, List.drop_eq_getElem_cons h2, e1, e2]
  rfl
theorem sameL_len {α : Type} {eq : α → α → Bool} : ∀ {l m : List α}, l.length ≠ m.length → sameL eq l m = false
  | [], [], h => absurd rfl h
  | [], _ :: _, _ => rfl
  | _ :: _, [], _ => rfl
  | x :: l, y :: m, h => by
    show (eq x y && sameL eq l m) = false
    rw [sameL_len (fun e => h (by simp [e]))]
    simp
def LabR (l : List InsL) : Prop := ∀ x ∈ l, x.labels.length ≤ 4611686018427387904
set_option maxRecDepth 100000 in
set_option maxHeartbeats 4000000 in
theorem rsameF_any (t t2 : Int) (s s2 : ByteArray) (la lb : Option Addr) (c d : Nat) (p q : List InsL) (w : World) (hp : CodeAt w (.slice la p.length c) p) (hq : CodeAt w (.slice lb q.length d) q) (hl1 : LabR p) (hl2 : LabR q) (hp2 : p.length ≤ 4611686018427387904) (ANS : Bool) (hA : sameFn ⟨t, s, p⟩ ⟨t2, s2, q⟩ = ANS) :
    Calls Tryz.prog 53 #[.agg #[.int .i64 t, .string s, .slice la p.length c], .agg #[.int .i64 t2, .string s2, .slice lb q.length d]] w fun e w' => e = .returned (.bool ANS) ∧ Below w.heap.size w w' := by
  have HANS := Lib.hid (show (t == t2 && ((s.toList == s2.toList) && sameL sameIns p q)) = ANS from hA)
  obtain ⟨la', c', hv1, hle1, hx1⟩ := hp.form
  obtain ⟨lb', d', hv2, hle2, hx2⟩ := hq.form
  simp only [Value.slice.injEq, true_and] at hv1 hv2
  obtain ⟨rfl, rfl⟩ := hv1
  obtain ⟨rfl, rfl⟩ := hv2
  have HX1 := Lib.hid hx1
  have HX2 := Lib.hid hx2
  have HL1 := Lib.hid hl1
  have HL2 := Lib.hid hl2
  obtain ⟨W1, hW1⟩ : ∃ W1, (w.alloc (.cells #[.int .i64 t, .string s, .slice la p.length c] 33)).alloc (.cells #[.int .i64 t2, .string s2, .slice lb q.length d] 33) = W1 := ⟨_, rfl⟩
  have B0 := Lib.hid (show Below w.heap.size w W1 by rw [← hW1]; exact ((Below.refl _ _).alloc (Nat.le_refl _) _).alloc (by simp) _)
  have q0 : W1.cell? ⟨w.heap.size, 0, none⟩ = some (.int .i64 t) := by rw [← hW1]; simp
  have q1 : W1.cell? ⟨w.heap.size, 1, none⟩ = some (.string s) := by rw [← hW1]; simp
  have q2 : W1.cell? ⟨w.heap.size, 2, none⟩ = some (.slice la p.length c) := by rw [← hW1]; simp
  have p0 : W1.cell? ⟨w.heap.size + 1, 0, none⟩ = some (.int .i64 t2) := by rw [← hW1]; simp
  have p1 : W1.cell? ⟨w.heap.size + 1, 1, none⟩ = some (.string s2) := by rw [← hW1]; simp
  have p2 : W1.cell? ⟨w.heap.size + 1, 2, none⟩ = some (.slice lb q.length d) := by rw [← hW1]; simp
  have HW1 := Lib.hid hW1
  have Q2 := Lib.hid q2
  have P2 := Lib.hid p2
  clear hp hq hA hW1 hx1 hx2 hl1 hl2
  go_enter Tryz.func53, Tryz.ntmps53
  go_upto_region 1 with fail
  rw [HW1.out]
  cases e1 : (t == t2)
  · have e1' : (t != t2) = true := by rw [bne, e1]; rfl
    have HF := Lib.hid (show ANS = false by rw [← HANS.out, e1]; rfl)
    go_wp2_with fail
    go_ret
    exact ⟨by rw [HF.out]; rfl, B0.out⟩
  have e1' : (t != t2) = false := by rw [bne, e1]; rfl
  cases e2 : (s.toList == s2.toList)
  · have e2' : (s.toList != s2.toList) = true := by rw [bne, e2]; rfl
    have HF := Lib.hid (show ANS = false by rw [← HANS.out, e2]; simp)
    go_wp2_with fail
    go_ret
    exact ⟨by rw [HF.out]; rfl, B0.out⟩
  have e2' : (s.toList != s2.toList) = false := by rw [bne, e2]; rfl
  have HZY := Lib.hid (show sameL sameIns p q = ANS by rw [← HANS.out, e1, e2]; rfl)
  by_cases hl : p.length = q.length
  · have e4 : ((p.length : Int) == (q.length : Int)) = true := by rw [beq_iff_eq]; omega
    have e4' : ((p.length : Int) != (q.length : Int)) = false := by rw [bne, e4]; rfl
    have HL := Lib.hid hl
    clear hl
    go_wp2_with fail
    clear q0 q1 q2 p0 p1 p2 e1 e1' e2 e2' e4 e4'
    go_loopw [5] (fun i wr => ∃ k : Nat, k ≤ p.length ∧ i = .int .i64 k ∧ sameL sameIns (p.drop k) (q.drop k) = ANS ∧ Below W1.heap.size W1 wr) (fun i _ => p.length - (Go.RowKit.intOf i).toNat)
    case atStart => exact ⟨0, Nat.zero_le _, rfl, HZY.out, Below.refl _ _⟩
    case round =>
      obtain ⟨k, hk, rfl, ha, hB⟩ := hrel
      have HA := Lib.hid ha
      have HB := Lib.hid hB
      have BW := Lib.hid (B0.out.trans (hB.mono B0.out.size))
      have q2 := cell_later hB Q2.out
      have p2 := cell_later hB P2.out
      clear ha hB
      by_cases hlt : k < p.length
      · have d1 : decide ((k : Int) < (p.length : Int)) = true := decide_eq_true (by omega)
        have d1' : decide (k < p.length) = true := decide_eq_true hlt
        obtain ⟨⟨o, xa, xb, zs⟩, hm⟩ : ∃ x, p[k]? = some x := ⟨_, List.getElem?_eq_getElem hlt⟩
        obtain ⟨⟨o2, ya, yb, ys⟩, hn⟩ : ∃ y, q[k]? = some y := ⟨_, List.getElem?_eq_getElem (by have := HL.out; omega)⟩
        obtain ⟨r1, ⟨lv, rfl, hil, _⟩, _, b, off, rfl, hb, hcell⟩ := HX1.out k _ hm
        obtain ⟨r2, ⟨lu, rfl, hiu, _⟩, _, b', off', rfl, hb', hcell'⟩ := HX2.out k _ hn
        have HIL := Lib.hid hil
        have HIU := Lib.hid hiu
        obtain ⟨lva, lvc, rfl⟩ := intsAt_form hil
        obtain ⟨lua, luc, rfl⟩ := intsAt_form hiu
        have c0 : wr.cell? ⟨b, off + k * 4, none⟩ = some (.int .i64 o) := cell_later BW.out (hcell 0 _ rfl)
        have c1 : wr.cell? ⟨b, off + k * 4 + 1, none⟩ = some (.int .i64 xa) := cell_later BW.out (hcell 1 _ rfl)
        have c2 : wr.cell? ⟨b, off + k * 4 + 2, none⟩ = some (.int .i64 xb) := cell_later BW.out (hcell 2 _ rfl)
        have c3 : wr.cell? ⟨b, off + k * 4 + 3, none⟩ = some (.slice lva zs.length lvc) := cell_later BW.out (hcell 3 _ rfl)
        have f0 : wr.cell? ⟨b', off' + k * 4, none⟩ = some (.int .i64 o2) := cell_later BW.out (hcell' 0 _ rfl)
        have f1 : wr.cell? ⟨b', off' + k * 4 + 1, none⟩ = some (.int .i64 ya) := cell_later BW.out (hcell' 1 _ rfl)
        have f2 : wr.cell? ⟨b', off' + k * 4 + 2, none⟩ = some (.int .i64 yb) := cell_later BW.out (hcell' 2 _ rfl)
        have f3 : wr.cell? ⟨b', off' + k * 4 + 3, none⟩ = some (.slice lua ys.length luc) := cell_later BW.out (hcell' 3 _ rfl)
        have HZ := Lib.hid (show zs.length ≤ 4611686018427387904 from HL1.out _ (List.mem_of_getElem? hm))
        have HY := Lib.hid (show ys.length ≤ 4611686018427387904 from HL2.out _ (List.mem_of_getElem? hn))
        have HD := Lib.hid (sameL_drop (eq := sameIns) hm hn)
        have hltq : k < q.length := by have := HL.out; omega
        have hlt1 : (k : Int) < (p.length : Int) := by omega
        have hlt2 : (k : Int) < (q.length : Int) := by omega
        obtain ⟨E, hE⟩ : ∃ E, sameIns ⟨o, xa, xb, zs⟩ ⟨o2, ya, yb, ys⟩ = E := ⟨_, rfl⟩
        have HC := Lib.hid (show ∀ W, Below w.heap.size w W → Calls Tryz.prog 89 #[.agg #[.int .i64 o, .int .i64 xa, .int .i64 xb, .slice lva zs.length lvc], .agg #[.int .i64 o2, .int .i64 ya, .int .i64 yb, .slice lua ys.length luc]] W fun e w' => e = .returned (.bool E) ∧ Below W.heap.size W w' from fun W hW => rsameI_any o xa xb o2 ya yb lva lua lvc luc zs ys W (intsAt_later HIL.out hW) (intsAt_later HIU.out hW) HZ.out HY.out E hE)
        have HEE := Lib.hid hE
        clear hm hn hcell hcell' hil hiu hb hb' hE
        go_upto_region 6 with fail
        go_still_tail 10, (by kernel_rfl)
        change wpList _ _ _ _ _ wr.drew
        go_wp2_with fail
        refine (HC.out _ BW.out.drew).mono ?_
        rintro e w5 ⟨rfl, e5⟩
        have HB5 := Lib.hid (HB.out.drew.trans (e5.mono HB.out.size))
        clear e5 c0 c1 c2 c3 f0 f1 f2 f3 q2 p2
        cases E
        · have HF := Lib.hid (show ANS = false by rw [← HA.out, HD.out, HEE.out]; rfl)
          go_wp2_with fail
          go_ret
          exact ⟨by rw [HF.out]; rfl, B0.out.trans (HB5.out.mono B0.out.size)⟩
        · have HN := Lib.hid (show sameL sameIns (p.drop (k + 1)) (q.drop (k + 1)) = ANS by rw [← HA.out, HD.out, HEE.out]; rfl)
          go_wp2_with fail
          go_roundw
          case rel => exact ⟨k + 1, by omega, by go_num, HN.out, HB5.out⟩
          case measure => simp [Go.RowKit.intOf]; omega
      · obtain rfl : k = p.length := by omega
        have d1 : decide ((p.length : Int) < (p.length : Int)) = false := decide_eq_false (by omega)
        have d1' : decide (p.length < p.length) = false := decide_eq_false hlt
        have HT := Lib.hid (show ANS = true by rw [← HA.out, List.drop_length, HL.out, List.drop_length]; rfl)
        go_wp2_with fail
        go_ret
        exact ⟨by rw [HT.out]; rfl, BW.out⟩
  · have e4 : ((p.length : Int) == (q.length : Int)) = false := by rw [beq_eq_false_iff_ne]; omega
    have e4' : ((p.length : Int) != (q.length : Int)) = true := by rw [bne, e4]; rfl
    have HF := Lib.hid (show ANS = false by rw [← HZY.out, sameL_len hl])
    clear hl
    go_wp2_with fail
    go_ret
    exact ⟨by rw [HF.out]; rfl, B0.out⟩
end Go.Proofs.YtkemaonhchklmaaGreatDoor.Mod

/- ModRefJ: What the reference's Same of chapter 4 answers of any two modules that came in. No condition beyond what each theorem names. -/
namespace Go.Proofs.YtkemaonhchklmaaGreatDoor.Mod
open Go.RowKit Go.Maps Go.Proofs.YtkemaonhchklmaaGreatDoor.Op
set_option linter.unusedVariables false
set_option linter.unusedSimpArgs false
/-- one pair more of two lists -/
theorem same_step {α : Type} {q : α → α → Bool} {l m : List α} {k : Nat} {x y : α} {f R v : Bool} (h : (f && sameL q (l.drop k) (m.drop k)) = R) (hx : l[k]? = some x) (hy : m[k]? = some y) (hv : (f && q x y) = v) : (v && sameL q (l.drop (k + 1)) (m.drop (k + 1))) = R := by
  rw [← h, sameL_drop hx hy, ← hv, Bool.and_assoc]
theorem same_end {α : Type} {q : α → α → Bool} {l m : List α} {f R : Bool} (he : l.length = m.length) (h : (f && sameL q (l.drop l.length) (m.drop l.length)) = R) : f = R := by
  rw [← h, List.drop_length, he, List.drop_length]
  cases f <;> rfl
set_option maxRecDepth 100000 in
theorem eqlM_ft (x y : FT) (w : World) : (binOp .eql 50 (.agg x.cells.toArray) (.agg y.cells.toArray)).run Tryz.prog w = .ok (.bool (eq_ft x y)) w := by
  have hS : Tryz.prog.underlying 50 = some (.struct (Tryz.prog.fieldsOf 50)) := by kernel_rfl
  have hp : Tryz.prog.stoodInHeld 50 = false := by kernel_rfl
  simp only [FT.cells]
  rw [run_eql_struct, show (10000 : Nat) = 9999 + 1 from rfl, run_equalIn_agg w 9999 50 _ _ hS hp]
  simp only [Program.fieldsOf, Tryz.underlying50]
  go_simp
  unfold eq_ft eqS
  by_cases h0 : x.params.toList = y.params.toList <;> by_cases h1 : x.results.toList = y.results.toList <;> simp [h0, h1]
set_option maxRecDepth 100000 in
theorem eqlM_mem (x y : MemP) (w : World) : (binOp .eql 59 (.agg x.cells.toArray) (.agg y.cells.toArray)).run Tryz.prog w = .ok (.bool (eq_mem x y)) w := by
  have hS : Tryz.prog.underlying 59 = some (.struct (Tryz.prog.fieldsOf 59)) := by kernel_rfl
  have hp : Tryz.prog.stoodInHeld 59 = false := by kernel_rfl
  simp only [MemP.cells]
  rw [run_eql_struct, show (10000 : Nat) = 9999 + 1 from rfl, run_equalIn_agg w 9999 59 _ _ hS hp]
  simp only [Program.fieldsOf, Tryz.underlying59]
  go_simp
  unfold eq_mem
  by_cases h0 : x.least = y.least <;> by_cases h1 : x.most = y.most <;> simp [h0, h1]
set_option maxRecDepth 100000 in
theorem eqlM_glob (x y : GlobP) (w : World) : (binOp .eql 63 (.agg x.cells.toArray) (.agg y.cells.toArray)).run Tryz.prog w = .ok (.bool (eq_glob x y)) w := by
  have hS : Tryz.prog.underlying 63 = some (.struct (Tryz.prog.fieldsOf 63)) := by kernel_rfl
  have hp : Tryz.prog.stoodInHeld 63 = false := by kernel_rfl
  simp only [GlobP.cells]
  rw [run_eql_struct, show (10000 : Nat) = 9999 + 1 from rfl, run_equalIn_agg w 9999 63 _ _ hS hp]
  simp only [Program.fieldsOf, Tryz.underlying63]
  go_simp
  unfold eq_glob
  by_cases h0 : x.ty = y.ty <;> by_cases h1 : x.mut_ = y.mut_ <;> by_cases h2 : x.init = y.init <;> simp [h0, h1, h2]
set_option maxRecDepth 100000 in
theorem eqlM_exp (x y : ExpP) (w : World) : (binOp .eql 67 (.agg x.cells.toArray) (.agg y.cells.toArray)).run Tryz.prog w = .ok (.bool (eq_exp x y)) w := by
  have hS : Tryz.prog.underlying 67 = some (.struct (Tryz.prog.fieldsOf 67)) := by kernel_rfl
  have hp : Tryz.prog.stoodInHeld 67 = false := by kernel_rfl
  simp only [ExpP.cells]
  rw [run_eql_struct, show (10000 : Nat) = 9999 + 1 from rfl, run_equalIn_agg w 9999 67 _ _ hS hp]
  simp only [Program.fieldsOf, Tryz.underlying67]
  go_simp
  unfold eq_exp eqS
  by_cases h0 : x.name.toList = y.name.toList <;> by_cases h1 : x.kind = y.kind <;> by_cases h2 : x.index = y.index <;> simp [h0, h1, h2]
set_option maxRecDepth 100000 in
theorem eqlM_data (x y : DataP) (w : World) : (binOp .eql 71 (.agg x.cells.toArray) (.agg y.cells.toArray)).run Tryz.prog w = .ok (.bool (eq_data x y)) w := by
  have hS : Tryz.prog.underlying 71 = some (.struct (Tryz.prog.fieldsOf 71)) := by kernel_rfl
  have hp : Tryz.prog.stoodInHeld 71 = false := by kernel_rfl
  simp only [DataP.cells]
  rw [run_eql_struct, show (10000 : Nat) = 9999 + 1 from rfl, run_equalIn_agg w 9999 71 _ _ hS hp]
  simp only [Program.fieldsOf, Tryz.underlying71]
  go_simp
  unfold eq_data eqS
  by_cases h0 : x.offset = y.offset <;> by_cases h1 : x.bytes.toList = y.bytes.toList <;> simp [h0, h1]
set_option maxRecDepth 100000 in
set_option maxHeartbeats 16000000 in
theorem rsameM_any (t fv me g e : Value) (st : Int) (d : Value) (m : ModP) (t' fv' me' g' e' : Value) (st' : Int) (d' : Value) (n : ModP) (w : World) (hM : ModAt w t fv me g e st d m) (hN : ModAt w t' fv' me' g' e' st' d' n) (hO : ModOk m) (hO' : ModOk n) (ANS : Bool) (hA : sameM m n = ANS) :
    Calls Tryz.prog 15 #[modV t fv me g e st d, modV t' fv' me' g' e' st' d'] w fun en w' => en = .returned (.bool ANS) ∧ Below w.heap.size w w' := by
  obtain ⟨ta, tc, rfl, tal, tax⟩ := hM.types.form
  obtain ⟨fa, fc, rfl, fal, fax⟩ := hM.funcs.form
  obtain ⟨ma, mc, rfl, mal, max⟩ := hM.memory.form
  obtain ⟨ga, gc, rfl, gal, gax⟩ := hM.globals.form
  obtain ⟨ea, ec, rfl, eal, eax⟩ := hM.exports.form
  obtain ⟨da, dc, rfl, dal, dax⟩ := hM.data.form
  obtain ⟨tb, td, rfl, tbl, tbx⟩ := hN.types.form
  obtain ⟨fb, fd, rfl, fbl, fbx⟩ := hN.funcs.form
  obtain ⟨mb, md, rfl, mbl, mbx⟩ := hN.memory.form
  obtain ⟨gb, gd, rfl, gbl, gbx⟩ := hN.globals.form
  obtain ⟨eb, ed, rfl, ebl, ebx⟩ := hN.exports.form
  obtain ⟨db, dd, rfl, dbl, dbx⟩ := hN.data.form
  obtain rfl : st = m.start := hM.start
  obtain rfl : st' = n.start := hN.start
  have HO := Lib.hid hO
  have HP := Lib.hid hO'
  have HANS := Lib.hid hA
  have TA := Lib.hid tax
  have FA := Lib.hid fax
  have MA := Lib.hid max
  have GA := Lib.hid gax
  have EA := Lib.hid eax
  have DA := Lib.hid dax
  have TB := Lib.hid tbx
  have FB := Lib.hid fbx
  have MB := Lib.hid mbx
  have GB := Lib.hid gbx
  have EB := Lib.hid ebx
  have DB := Lib.hid dbx
  clear hM hN hO hO' hA tax fax max gax eax dax tbx fbx mbx gbx ebx dbx
  obtain ⟨W1, hW1⟩ : ∃ W1, (w.alloc (.cells #[.slice ta m.types.length tc, .slice fa m.funcs.length fc, .slice ma m.memory.length mc, .slice ga m.globals.length gc, .slice ea m.exports.length ec, .int .i64 m.start, .slice da m.data.length dc] 29)).alloc (.cells #[.slice tb n.types.length td, .slice fb n.funcs.length fd, .slice mb n.memory.length md, .slice gb n.globals.length gd, .slice eb n.exports.length ed, .int .i64 n.start, .slice db n.data.length dd] 29) = W1 := ⟨_, rfl⟩
  have B0 := Lib.hid (show Below w.heap.size w W1 by rw [← hW1]; exact ((Below.refl _ _).alloc (Nat.le_refl _) _).alloc (by simp) _)
  have HBX := Lib.hid (show W1.heap[w.heap.size]? = some (.cells #[.slice ta m.types.length tc, .slice fa m.funcs.length fc, .slice ma m.memory.length mc, .slice ga m.globals.length gc, .slice ea m.exports.length ec, .int .i64 m.start, .slice da m.data.length dc] 29) by rw [← hW1]; exact boxm_later ((Below.refl _ (w.alloc (.cells #[.slice ta m.types.length tc, .slice fa m.funcs.length fc, .slice ma m.memory.length mc, .slice ga m.globals.length gc, .slice ea m.exports.length ec, .int .i64 m.start, .slice da m.data.length dc] 29))).alloc (Nat.le_refl _) (.cells #[.slice tb n.types.length td, .slice fb n.funcs.length fd, .slice mb n.memory.length md, .slice gb n.globals.length gd, .slice eb n.exports.length ed, .int .i64 n.start, .slice db n.data.length dd] 29)) (heap_alloc_new w (.cells #[.slice ta m.types.length tc, .slice fa m.funcs.length fc, .slice ma m.memory.length mc, .slice ga m.globals.length gc, .slice ea m.exports.length ec, .int .i64 m.start, .slice da m.data.length dc] 29)))
  have HBY := Lib.hid (show W1.heap[w.heap.size + 1]? = some (.cells #[.slice tb n.types.length td, .slice fb n.funcs.length fd, .slice mb n.memory.length md, .slice gb n.globals.length gd, .slice eb n.exports.length ed, .int .i64 n.start, .slice db n.data.length dd] 29) by rw [← hW1, ← show (w.alloc (.cells #[.slice ta m.types.length tc, .slice fa m.funcs.length fc, .slice ma m.memory.length mc, .slice ga m.globals.length gc, .slice ea m.exports.length ec, .int .i64 m.start, .slice da m.data.length dc] 29)).heap.size = w.heap.size + 1 by simp]; exact heap_alloc_new (w.alloc (.cells #[.slice ta m.types.length tc, .slice fa m.funcs.length fc, .slice ma m.memory.length mc, .slice ga m.globals.length gc, .slice ea m.exports.length ec, .int .i64 m.start, .slice da m.data.length dc] 29)) (.cells #[.slice tb n.types.length td, .slice fb n.funcs.length fd, .slice mb n.memory.length md, .slice gb n.globals.length gd, .slice eb n.exports.length ed, .int .i64 n.start, .slice db n.data.length dd] 29))
  have q0 := boxm_at HBX.out 0 _ rfl
  have p0 := boxm_at HBY.out 0 _ rfl
  have q1 := boxm_at HBX.out 1 _ rfl
  have p1 := boxm_at HBY.out 1 _ rfl
  have q2 := boxm_at HBX.out 2 _ rfl
  have p2 := boxm_at HBY.out 2 _ rfl
  have q3 := boxm_at HBX.out 3 _ rfl
  have p3 := boxm_at HBY.out 3 _ rfl
  have q4 := boxm_at HBX.out 4 _ rfl
  have p4 := boxm_at HBY.out 4 _ rfl
  have q5 := boxm_at HBX.out 5 _ rfl
  have p5 := boxm_at HBY.out 5 _ rfl
  have q6 := boxm_at HBX.out 6 _ rfl
  have p6 := boxm_at HBY.out 6 _ rfl
  have HW1 := Lib.hid hW1
  clear hW1
  unfold modV
  go_enter Tryz.func15, Tryz.ntmps15
  go_upto_region 1 with fail
  rw [HW1.out]
  by_cases l0 : m.types.length = n.types.length
  rotate_left
  · have e0 : ((m.types.length : Int) == (n.types.length : Int)) = false := by rw [beq_eq_false_iff_ne]; omega
    have e0' : ((m.types.length : Int) != (n.types.length : Int)) = true := by rw [bne, e0]; rfl
    have HF := Lib.hid (show ANS = false by rw [← HANS.out]; unfold sameM; rw [sameL_len l0]; simp)
    clear l0
    go_wp2_with fail
    go_ret
    exact ⟨by rw [HF.out]; rfl, B0.out⟩
  have e0 : ((m.types.length : Int) == (n.types.length : Int)) = true := by rw [beq_iff_eq]; omega
  have e0' : ((m.types.length : Int) != (n.types.length : Int)) = false := by rw [bne, e0]; rfl
  have HL0 := Lib.hid l0
  clear l0
  by_cases l1 : m.funcs.length = n.funcs.length
  rotate_left
  · have e1 : ((m.funcs.length : Int) == (n.funcs.length : Int)) = false := by rw [beq_eq_false_iff_ne]; omega
    have e1' : ((m.funcs.length : Int) != (n.funcs.length : Int)) = true := by rw [bne, e1]; rfl
    have HF := Lib.hid (show ANS = false by rw [← HANS.out]; unfold sameM; rw [sameL_len l1]; simp)
    clear l1
    go_wp2_with fail
    go_ret
    exact ⟨by rw [HF.out]; rfl, B0.out⟩
  have e1 : ((m.funcs.length : Int) == (n.funcs.length : Int)) = true := by rw [beq_iff_eq]; omega
  have e1' : ((m.funcs.length : Int) != (n.funcs.length : Int)) = false := by rw [bne, e1]; rfl
  have HL1 := Lib.hid l1
  clear l1
  by_cases l2 : m.memory.length = n.memory.length
  rotate_left
  · have e2 : ((m.memory.length : Int) == (n.memory.length : Int)) = false := by rw [beq_eq_false_iff_ne]; omega
    have e2' : ((m.memory.length : Int) != (n.memory.length : Int)) = true := by rw [bne, e2]; rfl
    have HF := Lib.hid (show ANS = false by rw [← HANS.out]; unfold sameM; rw [sameL_len l2]; simp)
    clear l2
    go_wp2_with fail
    go_ret
    exact ⟨by rw [HF.out]; rfl, B0.out⟩
  have e2 : ((m.memory.length : Int) == (n.memory.length : Int)) = true := by rw [beq_iff_eq]; omega
  have e2' : ((m.memory.length : Int) != (n.memory.length : Int)) = false := by rw [bne, e2]; rfl
  have HL2 := Lib.hid l2
  clear l2
  by_cases l3 : m.globals.length = n.globals.length
  rotate_left
  · have e3 : ((m.globals.length : Int) == (n.globals.length : Int)) = false := by rw [beq_eq_false_iff_ne]; omega
    have e3' : ((m.globals.length : Int) != (n.globals.length : Int)) = true := by rw [bne, e3]; rfl
    have HF := Lib.hid (show ANS = false by rw [← HANS.out]; unfold sameM; rw [sameL_len l3]; simp)
    clear l3
    go_wp2_with fail
    go_ret
    exact ⟨by rw [HF.out]; rfl, B0.out⟩
  have e3 : ((m.globals.length : Int) == (n.globals.length : Int)) = true := by rw [beq_iff_eq]; omega
  have e3' : ((m.globals.length : Int) != (n.globals.length : Int)) = false := by rw [bne, e3]; rfl
  have HL3 := Lib.hid l3
  clear l3
  by_cases l4 : m.exports.length = n.exports.length
  rotate_left
  · have e4 : ((m.exports.length : Int) == (n.exports.length : Int)) = false := by rw [beq_eq_false_iff_ne]; omega
    have e4' : ((m.exports.length : Int) != (n.exports.length : Int)) = true := by rw [bne, e4]; rfl
    have HF := Lib.hid (show ANS = false by rw [← HANS.out]; unfold sameM; rw [sameL_len l4]; simp)
    clear l4
    go_wp2_with fail
    go_ret
    exact ⟨by rw [HF.out]; rfl, B0.out⟩
  have e4 : ((m.exports.length : Int) == (n.exports.length : Int)) = true := by rw [beq_iff_eq]; omega
  have e4' : ((m.exports.length : Int) != (n.exports.length : Int)) = false := by rw [bne, e4]; rfl
  have HL4 := Lib.hid l4
  clear l4
  by_cases l5 : m.data.length = n.data.length
  rotate_left
  · have e5 : ((m.data.length : Int) == (n.data.length : Int)) = false := by rw [beq_eq_false_iff_ne]; omega
    have e5' : ((m.data.length : Int) != (n.data.length : Int)) = true := by rw [bne, e5]; rfl
    have HF := Lib.hid (show ANS = false by rw [← HANS.out]; unfold sameM; rw [sameL_len l5]; simp)
    clear l5
    go_wp2_with fail
    go_ret
    exact ⟨by rw [HF.out]; rfl, B0.out⟩
  have e5 : ((m.data.length : Int) == (n.data.length : Int)) = true := by rw [beq_iff_eq]; omega
  have e5' : ((m.data.length : Int) != (n.data.length : Int)) = false := by rw [bne, e5]; rfl
  have HL5 := Lib.hid l5
  clear l5
  cases s1 : (m.start == n.start)
  · have s1' : (m.start != n.start) = true := by rw [bne, s1]; rfl
    have HF := Lib.hid (show ANS = false by rw [← HANS.out]; unfold sameM; rw [s1]; rfl)
    go_wp2_with fail
    go_ret
    exact ⟨by rw [HF.out]; rfl, B0.out⟩
  have s1' : (m.start != n.start) = false := by rw [bne, s1]; rfl
  have HR := Lib.hid (show ANS = (sameL eq_ft m.types n.types && (sameL sameFn m.funcs n.funcs && (sameL eq_mem m.memory n.memory && (sameL eq_glob m.globals n.globals && (sameL eq_exp m.exports n.exports && sameL eq_data m.data n.data))))) by rw [← HANS.out]; unfold sameM; rw [s1, Bool.true_and])
  go_wp2_with fail
  clear q0 p0 q1 p1 q2 p2 q3 p3 q4 p4 q5 p5 q6 p6 s1 s1' e0 e0' e1 e1' e2 e2' e3 e3' e4 e4' e5 e5'
  obtain ⟨V0, hV0⟩ : ∃ V : Bool, (true && sameL eq_ft m.types n.types) = V := ⟨_, rfl⟩
  have HV0 := Lib.hid hV0
  clear hV0
  go_loopw [5, 6] (fun fn i wr => ∃ (k : Nat) (f : Bool), k ≤ m.types.length ∧ i = .int .i64 k ∧ fn = .bool f ∧ (f && sameL eq_ft (m.types.drop k) (n.types.drop k)) = V0 ∧ Below W1.heap.size W1 wr) (fun _ i _ => m.types.length + 1 - (Go.RowKit.intOf i).toNat)
  case atStart => exact ⟨0, true, Nat.zero_le _, rfl, rfl, HV0.out, Below.refl _ _⟩
  case round =>
    obtain ⟨k, f, hk, rfl, rfl, ha, hB⟩ := hrel
    have HA := Lib.hid ha
    have HB := Lib.hid hB
    have HB2 := Lib.hid (B0.out.trans (hB.mono B0.out.size))
    have hb9 := boxm_later hB HBX.out
    have q0 := boxm_at hb9 0 _ rfl
    clear hb9
    have hb9 := boxm_later hB HBY.out
    have p0 := boxm_at hb9 0 _ rfl
    clear ha hB hb9
    by_cases hlt : k < m.types.length
    · have hd : decide ((k : Int) < (m.types.length : Int)) = true := decide_eq_true (by omega)
      have hd2 : decide (k < m.types.length) = true := decide_eq_true hlt
      obtain ⟨x, hm⟩ : ∃ x, m.types[k]? = some x := ⟨_, List.getElem?_eq_getElem hlt⟩
      obtain ⟨y, hn⟩ : ∃ y, n.types[k]? = some y := ⟨_, List.getElem?_eq_getElem (by have := HL0.out; omega)⟩
      obtain ⟨r, hr, _, b, off, rfl, hb, hcell⟩ := TA.out k _ hm
      obtain ⟨r', hr', _, b', off', rfl, hb', hcell'⟩ := TB.out k _ hn
      have HM := Lib.hid hm
      have HN := Lib.hid hn
      have hlq : k < n.types.length := by have := HL0.out; omega
      have hk1 : (k : Int) < (m.types.length : Int) := by omega
      have hk2 : (k : Int) < (n.types.length : Int) := by omega
      have hk0 : (0 : Int) ≤ (k : Int) := by omega
      obtain ⟨p, s⟩ := x
      obtain ⟨p2, s2⟩ := y
      obtain ⟨rfl, _⟩ := hr
      obtain ⟨rfl, _⟩ := hr'
      have c0 : wr.cell? ⟨b, off + k * 2, none⟩ = some (.string p) := cell_later HB2.out (hcell 0 _ rfl)
      have f0 : wr.cell? ⟨b', off' + k * 2, none⟩ = some (.string p2) := cell_later HB2.out (hcell' 0 _ rfl)
      have c1 : wr.cell? ⟨b, off + k * 2 + 1, none⟩ = some (.string s) := cell_later HB2.out (hcell 1 _ rfl)
      have f1 : wr.cell? ⟨b', off' + k * 2 + 1, none⟩ = some (.string s2) := cell_later HB2.out (hcell' 1 _ rfl)
      obtain ⟨E, hE⟩ : ∃ E, eq_ft ⟨p, s⟩ ⟨p2, s2⟩ = E := ⟨_, rfl⟩
      have HE9 := Lib.hid hE
      have hrun : ∀ w, (binOp .eql 50 (.agg #[.string p, .string s]) (.agg #[.string p2, .string s2])).run Tryz.prog w = .ok (.bool E) w := fun w => by rw [← hE]; exact eqlM_ft ⟨p, s⟩ ⟨p2, s2⟩ w
      clear hm hn hcell hcell' hb hb' hE
      cases f
      · go_wp2_with fail
        go_quiet (fail)
        go_wp2_with fail
        go_roundw
        case rel => exact ⟨k + 1, _, by omega, by go_num, rfl, same_step HA.out HM.out HN.out rfl, below_drewN HB.out _⟩
        case measure => simp [Go.RowKit.intOf]; omega
      · go_wp2_with fail
        go_quiet (fail)
        go_wp2_with fail
        go_roundw
        case rel => exact ⟨k + 1, _, by omega, by go_num, rfl, same_step HA.out HM.out HN.out (by rw [← HE9.out]; rfl), below_drewN HB.out _⟩
        case measure => simp [Go.RowKit.intOf]; omega
    · obtain rfl : k = m.types.length := by omega
      have hd : decide ((m.types.length : Int) < (m.types.length : Int)) = false := by simp
      have hd2 : decide (m.types.length < m.types.length) = false := by simp
      have HE0 := Lib.hid (same_end HL0.out HA.out)
      have HBE0 := Lib.hid HB.out
      obtain ⟨w3, rfl⟩ : ∃ w3, w3 = wr := ⟨_, rfl⟩
      obtain ⟨f0, hf0⟩ : ∃ f0, f0 = f := ⟨_, rfl⟩
      subst hf0
      clear HA HB HB2
      go_wp2_with fail
      clear hd hd2 q0 p0
      obtain ⟨V1, hV1⟩ : ∃ V : Bool, (f0 && sameL sameFn m.funcs n.funcs) = V := ⟨_, rfl⟩
      have HV1 := Lib.hid hV1
      clear hV1
      go_loopw [5, 7] (fun fn i wr => ∃ (k : Nat) (f : Bool), k ≤ m.funcs.length ∧ i = .int .i64 k ∧ fn = .bool f ∧ (f && sameL sameFn (m.funcs.drop k) (n.funcs.drop k)) = V1 ∧ Below W1.heap.size W1 wr) (fun _ i _ => m.funcs.length + 1 - (Go.RowKit.intOf i).toNat)
      case atStart => exact ⟨0, f0, Nat.zero_le _, rfl, rfl, HV1.out, HBE0.out⟩
      case round =>
        obtain ⟨k, f, hk, rfl, rfl, ha, hB⟩ := hrel
        have HA := Lib.hid ha
        have HB := Lib.hid hB
        have HB2 := Lib.hid (B0.out.trans (hB.mono B0.out.size))
        have hb9 := boxm_later hB HBX.out
        have q1 := boxm_at hb9 1 _ rfl
        clear hb9
        have hb9 := boxm_later hB HBY.out
        have p1 := boxm_at hb9 1 _ rfl
        clear ha hB hb9
        by_cases hlt : k < m.funcs.length
        · have hd : decide ((k : Int) < (m.funcs.length : Int)) = true := decide_eq_true (by omega)
          have hd2 : decide (k < m.funcs.length) = true := decide_eq_true hlt
          obtain ⟨x, hm⟩ : ∃ x, m.funcs[k]? = some x := ⟨_, List.getElem?_eq_getElem hlt⟩
          obtain ⟨y, hn⟩ : ∃ y, n.funcs[k]? = some y := ⟨_, List.getElem?_eq_getElem (by have := HL1.out; omega)⟩
          obtain ⟨r, hr, _, b, off, rfl, hb, hcell⟩ := FA.out k _ hm
          obtain ⟨r', hr', _, b', off', rfl, hb', hcell'⟩ := FB.out k _ hn
          have HM := Lib.hid hm
          have HN := Lib.hid hn
          have hlq : k < n.funcs.length := by have := HL1.out; omega
          have hk1 : (k : Int) < (m.funcs.length : Int) := by omega
          have hk2 : (k : Int) < (n.funcs.length : Int) := by omega
          have hk0 : (0 : Int) ≤ (k : Int) := by omega
          obtain ⟨ty, ls, code⟩ := x
          obtain ⟨ty2, ls2, code2⟩ := y
          obtain ⟨cv, rfl, hcd, hls, hroom⟩ := hr
          obtain ⟨cu, rfl, hcd', hls', hroom'⟩ := hr'
          have HCD := Lib.hid hcd
          have HCE := Lib.hid hcd'
          obtain ⟨cla, ccp, rfl, _⟩ := ListAt.form hcd
          obtain ⟨clb, ccq, rfl, _⟩ := ListAt.form hcd'
          change code.length * 48 ≤ _ at hroom
          have HRM := Lib.hid hroom
          have HLB := Lib.hid (show LabR code from fun z hz => by have h9 := ((HO.out.funcs _ (List.mem_of_getElem? hm)).code z hz).len; omega)
          have HLC := Lib.hid (show LabR code2 from fun z hz => by have h9 := ((HP.out.funcs _ (List.mem_of_getElem? hn)).code z hz).len; omega)
          have c0 : wr.cell? ⟨b, off + k * 3, none⟩ = some (.int .i64 ty) := cell_later HB2.out (hcell 0 _ rfl)
          have f0 : wr.cell? ⟨b', off' + k * 3, none⟩ = some (.int .i64 ty2) := cell_later HB2.out (hcell' 0 _ rfl)
          have c1 : wr.cell? ⟨b, off + k * 3 + 1, none⟩ = some (.string ls) := cell_later HB2.out (hcell 1 _ rfl)
          have f1 : wr.cell? ⟨b', off' + k * 3 + 1, none⟩ = some (.string ls2) := cell_later HB2.out (hcell' 1 _ rfl)
          have c2 : wr.cell? ⟨b, off + k * 3 + 2, none⟩ = some (.slice cla code.length ccp) := cell_later HB2.out (hcell 2 _ rfl)
          have f2 : wr.cell? ⟨b', off' + k * 3 + 2, none⟩ = some (.slice clb code2.length ccq) := cell_later HB2.out (hcell' 2 _ rfl)
          obtain ⟨E, hE⟩ : ∃ E, sameFn ⟨ty, ls, code⟩ ⟨ty2, ls2, code2⟩ = E := ⟨_, rfl⟩
          have HE9 := Lib.hid hE
          have HC := Lib.hid (show ∀ W, Below w.heap.size w W → Calls Tryz.prog 53 #[.agg #[.int .i64 ty, .string ls, .slice cla code.length ccp], .agg #[.int .i64 ty2, .string ls2, .slice clb code2.length ccq]] W fun e w' => e = .returned (.bool E) ∧ Below W.heap.size W w' from fun W hW => rsameF_any ty ty2 ls ls2 cla clb ccp ccq code code2 W (HCD.out.later lasts_ins hW) (HCE.out.later lasts_ins hW) HLB.out HLC.out (by have := HRM.out; omega) E hE)
          clear hm hn hcell hcell' hb hb' hE hcd hcd' hroom hls hls' hroom'
          go_upto_region 11 with fail
          go_still_tail 10, (by kernel_rfl)
          change wpList _ _ _ _ _ wr.drew
          go_wp2_with fail
          refine (HC.out _ HB2.out.drew).mono ?_
          rintro e w5 ⟨rfl, e5⟩
          have HB5 := Lib.hid (HB.out.drew.trans (e5.mono HB.out.size))
          clear e5 c0 f0 c1 f1 c2 f2 q1 p1
          cases f
          · go_wp2_with fail
            go_roundw
            case rel => exact ⟨k + 1, _, by omega, by go_num, rfl, same_step HA.out HM.out HN.out rfl, HB5.out⟩
            case measure => simp [Go.RowKit.intOf]; omega
          · go_wp2_with fail
            go_roundw
            case rel => exact ⟨k + 1, _, by omega, by go_num, rfl, same_step HA.out HM.out HN.out (by rw [← HE9.out]; rfl), HB5.out⟩
            case measure => simp [Go.RowKit.intOf]; omega
        · obtain rfl : k = m.funcs.length := by omega
          have hd : decide ((m.funcs.length : Int) < (m.funcs.length : Int)) = false := by simp
          have hd2 : decide (m.funcs.length < m.funcs.length) = false := by simp
          have HE1 := Lib.hid (same_end HL1.out HA.out)
          have HBE1 := Lib.hid HB.out
          obtain ⟨w4, rfl⟩ : ∃ w4, w4 = wr := ⟨_, rfl⟩
          obtain ⟨f1, hf1⟩ : ∃ f1, f1 = f := ⟨_, rfl⟩
          subst hf1
          clear HA HB HB2
          go_wp2_with fail
          clear hd hd2 q1 p1
          obtain ⟨V2, hV2⟩ : ∃ V : Bool, (f1 && sameL eq_mem m.memory n.memory) = V := ⟨_, rfl⟩
          have HV2 := Lib.hid hV2
          clear hV2
          go_loopw [5, 9] (fun fn i wr => ∃ (k : Nat) (f : Bool), k ≤ m.memory.length ∧ i = .int .i64 k ∧ fn = .bool f ∧ (f && sameL eq_mem (m.memory.drop k) (n.memory.drop k)) = V2 ∧ Below W1.heap.size W1 wr) (fun _ i _ => m.memory.length + 1 - (Go.RowKit.intOf i).toNat)
          case atStart => exact ⟨0, f1, Nat.zero_le _, rfl, rfl, HV2.out, HBE1.out⟩
          case round =>
            obtain ⟨k, f, hk, rfl, rfl, ha, hB⟩ := hrel
            have HA := Lib.hid ha
            have HB := Lib.hid hB
            have HB2 := Lib.hid (B0.out.trans (hB.mono B0.out.size))
            have hb9 := boxm_later hB HBX.out
            have q2 := boxm_at hb9 2 _ rfl
            clear hb9
            have hb9 := boxm_later hB HBY.out
            have p2 := boxm_at hb9 2 _ rfl
            clear ha hB hb9
            by_cases hlt : k < m.memory.length
            · have hd : decide ((k : Int) < (m.memory.length : Int)) = true := decide_eq_true (by omega)
              have hd2 : decide (k < m.memory.length) = true := decide_eq_true hlt
              obtain ⟨x, hm⟩ : ∃ x, m.memory[k]? = some x := ⟨_, List.getElem?_eq_getElem hlt⟩
              obtain ⟨y, hn⟩ : ∃ y, n.memory[k]? = some y := ⟨_, List.getElem?_eq_getElem (by have := HL2.out; omega)⟩
              obtain ⟨r, hr, _, b, off, rfl, hb, hcell⟩ := MA.out k _ hm
              obtain ⟨r', hr', _, b', off', rfl, hb', hcell'⟩ := MB.out k _ hn
              have HM := Lib.hid hm
              have HN := Lib.hid hn
              have hlq : k < n.memory.length := by have := HL2.out; omega
              have hk1 : (k : Int) < (m.memory.length : Int) := by omega
              have hk2 : (k : Int) < (n.memory.length : Int) := by omega
              have hk0 : (0 : Int) ≤ (k : Int) := by omega
              obtain ⟨lo, hi⟩ := x
              obtain ⟨lo2, hi2⟩ := y
              have hr : r = [.int .i64 lo, .int .i64 hi] := hr
              subst hr
              have hr' : r' = [.int .i64 lo2, .int .i64 hi2] := hr'
              subst hr'
              have c0 : wr.cell? ⟨b, off + k * 2, none⟩ = some (.int .i64 lo) := cell_later HB2.out (hcell 0 _ rfl)
              have f0 : wr.cell? ⟨b', off' + k * 2, none⟩ = some (.int .i64 lo2) := cell_later HB2.out (hcell' 0 _ rfl)
              have c1 : wr.cell? ⟨b, off + k * 2 + 1, none⟩ = some (.int .i64 hi) := cell_later HB2.out (hcell 1 _ rfl)
              have f1 : wr.cell? ⟨b', off' + k * 2 + 1, none⟩ = some (.int .i64 hi2) := cell_later HB2.out (hcell' 1 _ rfl)
              obtain ⟨E, hE⟩ : ∃ E, eq_mem ⟨lo, hi⟩ ⟨lo2, hi2⟩ = E := ⟨_, rfl⟩
              have HE9 := Lib.hid hE
              have hrun : ∀ w, (binOp .eql 59 (.agg #[.int .i64 lo, .int .i64 hi]) (.agg #[.int .i64 lo2, .int .i64 hi2])).run Tryz.prog w = .ok (.bool E) w := fun w => by rw [← hE]; exact eqlM_mem ⟨lo, hi⟩ ⟨lo2, hi2⟩ w
              clear hm hn hcell hcell' hb hb' hE
              cases f
              · go_wp2_with fail
                go_quiet (fail)
                go_wp2_with fail
                go_roundw
                case rel => exact ⟨k + 1, _, by omega, by go_num, rfl, same_step HA.out HM.out HN.out rfl, below_drewN HB.out _⟩
                case measure => simp [Go.RowKit.intOf]; omega
              · go_wp2_with fail
                go_quiet (fail)
                go_wp2_with fail
                go_roundw
                case rel => exact ⟨k + 1, _, by omega, by go_num, rfl, same_step HA.out HM.out HN.out (by rw [← HE9.out]; rfl), below_drewN HB.out _⟩
                case measure => simp [Go.RowKit.intOf]; omega
            · obtain rfl : k = m.memory.length := by omega
              have hd : decide ((m.memory.length : Int) < (m.memory.length : Int)) = false := by simp
              have hd2 : decide (m.memory.length < m.memory.length) = false := by simp
              have HE2 := Lib.hid (same_end HL2.out HA.out)
              have HBE2 := Lib.hid HB.out
              obtain ⟨w5, rfl⟩ : ∃ w5, w5 = wr := ⟨_, rfl⟩
              obtain ⟨f2, hf2⟩ : ∃ f2, f2 = f := ⟨_, rfl⟩
              subst hf2
              clear HA HB HB2
              go_wp2_with fail
              clear hd hd2 q2 p2
              obtain ⟨V3, hV3⟩ : ∃ V : Bool, (f2 && sameL eq_glob m.globals n.globals) = V := ⟨_, rfl⟩
              have HV3 := Lib.hid hV3
              clear hV3
              go_loopw [5, 10] (fun fn i wr => ∃ (k : Nat) (f : Bool), k ≤ m.globals.length ∧ i = .int .i64 k ∧ fn = .bool f ∧ (f && sameL eq_glob (m.globals.drop k) (n.globals.drop k)) = V3 ∧ Below W1.heap.size W1 wr) (fun _ i _ => m.globals.length + 1 - (Go.RowKit.intOf i).toNat)
              case atStart => exact ⟨0, f2, Nat.zero_le _, rfl, rfl, HV3.out, HBE2.out⟩
              case round =>
                obtain ⟨k, f, hk, rfl, rfl, ha, hB⟩ := hrel
                have HA := Lib.hid ha
                have HB := Lib.hid hB
                have HB2 := Lib.hid (B0.out.trans (hB.mono B0.out.size))
                have hb9 := boxm_later hB HBX.out
                have q3 := boxm_at hb9 3 _ rfl
                clear hb9
                have hb9 := boxm_later hB HBY.out
                have p3 := boxm_at hb9 3 _ rfl
                clear ha hB hb9
                by_cases hlt : k < m.globals.length
                · have hd : decide ((k : Int) < (m.globals.length : Int)) = true := decide_eq_true (by omega)
                  have hd2 : decide (k < m.globals.length) = true := decide_eq_true hlt
                  obtain ⟨x, hm⟩ : ∃ x, m.globals[k]? = some x := ⟨_, List.getElem?_eq_getElem hlt⟩
                  obtain ⟨y, hn⟩ : ∃ y, n.globals[k]? = some y := ⟨_, List.getElem?_eq_getElem (by have := HL3.out; omega)⟩
                  obtain ⟨r, hr, _, b, off, rfl, hb, hcell⟩ := GA.out k _ hm
                  obtain ⟨r', hr', _, b', off', rfl, hb', hcell'⟩ := GB.out k _ hn
                  have HM := Lib.hid hm
                  have HN := Lib.hid hn
                  have hlq : k < n.globals.length := by have := HL3.out; omega
                  have hk1 : (k : Int) < (m.globals.length : Int) := by omega
                  have hk2 : (k : Int) < (n.globals.length : Int) := by omega
                  have hk0 : (0 : Int) ≤ (k : Int) := by omega
                  obtain ⟨ty, mu, nn⟩ := x
                  obtain ⟨ty2, mu2, nn2⟩ := y
                  have hr : r = [.int .i64 ty, .bool mu, .int .i64 nn] := hr
                  subst hr
                  have hr' : r' = [.int .i64 ty2, .bool mu2, .int .i64 nn2] := hr'
                  subst hr'
                  have c0 : wr.cell? ⟨b, off + k * 3, none⟩ = some (.int .i64 ty) := cell_later HB2.out (hcell 0 _ rfl)
                  have f0 : wr.cell? ⟨b', off' + k * 3, none⟩ = some (.int .i64 ty2) := cell_later HB2.out (hcell' 0 _ rfl)
                  have c1 : wr.cell? ⟨b, off + k * 3 + 1, none⟩ = some (.bool mu) := cell_later HB2.out (hcell 1 _ rfl)
                  have f1 : wr.cell? ⟨b', off' + k * 3 + 1, none⟩ = some (.bool mu2) := cell_later HB2.out (hcell' 1 _ rfl)
                  have c2 : wr.cell? ⟨b, off + k * 3 + 2, none⟩ = some (.int .i64 nn) := cell_later HB2.out (hcell 2 _ rfl)
                  have f2 : wr.cell? ⟨b', off' + k * 3 + 2, none⟩ = some (.int .i64 nn2) := cell_later HB2.out (hcell' 2 _ rfl)
                  obtain ⟨E, hE⟩ : ∃ E, eq_glob ⟨ty, mu, nn⟩ ⟨ty2, mu2, nn2⟩ = E := ⟨_, rfl⟩
                  have HE9 := Lib.hid hE
                  have hrun : ∀ w, (binOp .eql 63 (.agg #[.int .i64 ty, .bool mu, .int .i64 nn]) (.agg #[.int .i64 ty2, .bool mu2, .int .i64 nn2])).run Tryz.prog w = .ok (.bool E) w := fun w => by rw [← hE]; exact eqlM_glob ⟨ty, mu, nn⟩ ⟨ty2, mu2, nn2⟩ w
                  clear hm hn hcell hcell' hb hb' hE
                  cases f
                  · go_wp2_with fail
                    go_quiet (fail)
                    go_wp2_with fail
                    go_roundw
                    case rel => exact ⟨k + 1, _, by omega, by go_num, rfl, same_step HA.out HM.out HN.out rfl, below_drewN HB.out _⟩
                    case measure => simp [Go.RowKit.intOf]; omega
                  · go_wp2_with fail
                    go_quiet (fail)
                    go_wp2_with fail
                    go_roundw
                    case rel => exact ⟨k + 1, _, by omega, by go_num, rfl, same_step HA.out HM.out HN.out (by rw [← HE9.out]; rfl), below_drewN HB.out _⟩
                    case measure => simp [Go.RowKit.intOf]; omega
                · obtain rfl : k = m.globals.length := by omega
                  have hd : decide ((m.globals.length : Int) < (m.globals.length : Int)) = false := by simp
                  have hd2 : decide (m.globals.length < m.globals.length) = false := by simp
                  have HE3 := Lib.hid (same_end HL3.out HA.out)
                  have HBE3 := Lib.hid HB.out
                  obtain ⟨w6, rfl⟩ : ∃ w6, w6 = wr := ⟨_, rfl⟩
                  obtain ⟨f3, hf3⟩ : ∃ f3, f3 = f := ⟨_, rfl⟩
                  subst hf3
                  clear HA HB HB2
                  go_wp2_with fail
                  clear hd hd2 q3 p3
                  obtain ⟨V4, hV4⟩ : ∃ V : Bool, (f3 && sameL eq_exp m.exports n.exports) = V := ⟨_, rfl⟩
                  have HV4 := Lib.hid hV4
                  clear hV4
                  go_loopw [5, 11] (fun fn i wr => ∃ (k : Nat) (f : Bool), k ≤ m.exports.length ∧ i = .int .i64 k ∧ fn = .bool f ∧ (f && sameL eq_exp (m.exports.drop k) (n.exports.drop k)) = V4 ∧ Below W1.heap.size W1 wr) (fun _ i _ => m.exports.length + 1 - (Go.RowKit.intOf i).toNat)
                  case atStart => exact ⟨0, f3, Nat.zero_le _, rfl, rfl, HV4.out, HBE3.out⟩
                  case round =>
                    obtain ⟨k, f, hk, rfl, rfl, ha, hB⟩ := hrel
                    have HA := Lib.hid ha
                    have HB := Lib.hid hB
                    have HB2 := Lib.hid (B0.out.trans (hB.mono B0.out.size))
                    have hb9 := boxm_later hB HBX.out
                    have q4 := boxm_at hb9 4 _ rfl
                    clear hb9
                    have hb9 := boxm_later hB HBY.out
                    have p4 := boxm_at hb9 4 _ rfl
                    clear ha hB hb9
                    by_cases hlt : k < m.exports.length
                    · have hd : decide ((k : Int) < (m.exports.length : Int)) = true := decide_eq_true (by omega)
                      have hd2 : decide (k < m.exports.length) = true := decide_eq_true hlt
                      obtain ⟨x, hm⟩ : ∃ x, m.exports[k]? = some x := ⟨_, List.getElem?_eq_getElem hlt⟩
                      obtain ⟨y, hn⟩ : ∃ y, n.exports[k]? = some y := ⟨_, List.getElem?_eq_getElem (by have := HL4.out; omega)⟩
                      obtain ⟨r, hr, _, b, off, rfl, hb, hcell⟩ := EA.out k _ hm
                      obtain ⟨r', hr', _, b', off', rfl, hb', hcell'⟩ := EB.out k _ hn
                      have HM := Lib.hid hm
                      have HN := Lib.hid hn
                      have hlq : k < n.exports.length := by have := HL4.out; omega
                      have hk1 : (k : Int) < (m.exports.length : Int) := by omega
                      have hk2 : (k : Int) < (n.exports.length : Int) := by omega
                      have hk0 : (0 : Int) ≤ (k : Int) := by omega
                      obtain ⟨nm, kd, ix⟩ := x
                      obtain ⟨nm2, kd2, ix2⟩ := y
                      obtain ⟨rfl, _⟩ := hr
                      obtain ⟨rfl, _⟩ := hr'
                      have c0 : wr.cell? ⟨b, off + k * 3, none⟩ = some (.string nm) := cell_later HB2.out (hcell 0 _ rfl)
                      have f0 : wr.cell? ⟨b', off' + k * 3, none⟩ = some (.string nm2) := cell_later HB2.out (hcell' 0 _ rfl)
                      have c1 : wr.cell? ⟨b, off + k * 3 + 1, none⟩ = some (.int .i64 kd) := cell_later HB2.out (hcell 1 _ rfl)
                      have f1 : wr.cell? ⟨b', off' + k * 3 + 1, none⟩ = some (.int .i64 kd2) := cell_later HB2.out (hcell' 1 _ rfl)
                      have c2 : wr.cell? ⟨b, off + k * 3 + 2, none⟩ = some (.int .i64 ix) := cell_later HB2.out (hcell 2 _ rfl)
                      have f2 : wr.cell? ⟨b', off' + k * 3 + 2, none⟩ = some (.int .i64 ix2) := cell_later HB2.out (hcell' 2 _ rfl)
                      obtain ⟨E, hE⟩ : ∃ E, eq_exp ⟨nm, kd, ix⟩ ⟨nm2, kd2, ix2⟩ = E := ⟨_, rfl⟩
                      have HE9 := Lib.hid hE
                      have hrun : ∀ w, (binOp .eql 67 (.agg #[.string nm, .int .i64 kd, .int .i64 ix]) (.agg #[.string nm2, .int .i64 kd2, .int .i64 ix2])).run Tryz.prog w = .ok (.bool E) w := fun w => by rw [← hE]; exact eqlM_exp ⟨nm, kd, ix⟩ ⟨nm2, kd2, ix2⟩ w
                      clear hm hn hcell hcell' hb hb' hE
                      cases f
                      · go_wp2_with fail
                        go_quiet (fail)
                        go_wp2_with fail
                        go_roundw
                        case rel => exact ⟨k + 1, _, by omega, by go_num, rfl, same_step HA.out HM.out HN.out rfl, below_drewN HB.out _⟩
                        case measure => simp [Go.RowKit.intOf]; omega
                      · go_wp2_with fail
                        go_quiet (fail)
                        go_wp2_with fail
                        go_roundw
                        case rel => exact ⟨k + 1, _, by omega, by go_num, rfl, same_step HA.out HM.out HN.out (by rw [← HE9.out]; rfl), below_drewN HB.out _⟩
                        case measure => simp [Go.RowKit.intOf]; omega
                    · obtain rfl : k = m.exports.length := by omega
                      have hd : decide ((m.exports.length : Int) < (m.exports.length : Int)) = false := by simp
                      have hd2 : decide (m.exports.length < m.exports.length) = false := by simp
                      have HE4 := Lib.hid (same_end HL4.out HA.out)
                      have HBE4 := Lib.hid HB.out
                      obtain ⟨w7, rfl⟩ : ∃ w7, w7 = wr := ⟨_, rfl⟩
                      obtain ⟨f4, hf4⟩ : ∃ f4, f4 = f := ⟨_, rfl⟩
                      subst hf4
                      clear HA HB HB2
                      go_wp2_with fail
                      clear hd hd2 q4 p4
                      obtain ⟨V5, hV5⟩ : ∃ V : Bool, (f4 && sameL eq_data m.data n.data) = V := ⟨_, rfl⟩
                      have HV5 := Lib.hid hV5
                      clear hV5
                      go_loopw [5, 12] (fun fn i wr => ∃ (k : Nat) (f : Bool), k ≤ m.data.length ∧ i = .int .i64 k ∧ fn = .bool f ∧ (f && sameL eq_data (m.data.drop k) (n.data.drop k)) = V5 ∧ Below W1.heap.size W1 wr) (fun _ i _ => m.data.length + 1 - (Go.RowKit.intOf i).toNat)
                      case atStart => exact ⟨0, f4, Nat.zero_le _, rfl, rfl, HV5.out, HBE4.out⟩
                      case round =>
                        obtain ⟨k, f, hk, rfl, rfl, ha, hB⟩ := hrel
                        have HA := Lib.hid ha
                        have HB := Lib.hid hB
                        have HB2 := Lib.hid (B0.out.trans (hB.mono B0.out.size))
                        have hb9 := boxm_later hB HBX.out
                        have q6 := boxm_at hb9 6 _ rfl
                        clear hb9
                        have hb9 := boxm_later hB HBY.out
                        have p6 := boxm_at hb9 6 _ rfl
                        clear ha hB hb9
                        by_cases hlt : k < m.data.length
                        · have hd : decide ((k : Int) < (m.data.length : Int)) = true := decide_eq_true (by omega)
                          have hd2 : decide (k < m.data.length) = true := decide_eq_true hlt
                          obtain ⟨x, hm⟩ : ∃ x, m.data[k]? = some x := ⟨_, List.getElem?_eq_getElem hlt⟩
                          obtain ⟨y, hn⟩ : ∃ y, n.data[k]? = some y := ⟨_, List.getElem?_eq_getElem (by have := HL5.out; omega)⟩
                          obtain ⟨r, hr, _, b, off, rfl, hb, hcell⟩ := DA.out k _ hm
                          obtain ⟨r', hr', _, b', off', rfl, hb', hcell'⟩ := DB.out k _ hn
                          have HM := Lib.hid hm
                          have HN := Lib.hid hn
                          have hlq : k < n.data.length := by have := HL5.out; omega
                          have hk1 : (k : Int) < (m.data.length : Int) := by omega
                          have hk2 : (k : Int) < (n.data.length : Int) := by omega
                          have hk0 : (0 : Int) ≤ (k : Int) := by omega
                          obtain ⟨of, bs⟩ := x
                          obtain ⟨of2, bs2⟩ := y
                          obtain ⟨rfl, _⟩ := hr
                          obtain ⟨rfl, _⟩ := hr'
                          have c0 : wr.cell? ⟨b, off + k * 2, none⟩ = some (.int .i64 of) := cell_later HB2.out (hcell 0 _ rfl)
                          have f0 : wr.cell? ⟨b', off' + k * 2, none⟩ = some (.int .i64 of2) := cell_later HB2.out (hcell' 0 _ rfl)
                          have c1 : wr.cell? ⟨b, off + k * 2 + 1, none⟩ = some (.string bs) := cell_later HB2.out (hcell 1 _ rfl)
                          have f1 : wr.cell? ⟨b', off' + k * 2 + 1, none⟩ = some (.string bs2) := cell_later HB2.out (hcell' 1 _ rfl)
                          obtain ⟨E, hE⟩ : ∃ E, eq_data ⟨of, bs⟩ ⟨of2, bs2⟩ = E := ⟨_, rfl⟩
                          have HE9 := Lib.hid hE
                          have hrun : ∀ w, (binOp .eql 71 (.agg #[.int .i64 of, .string bs]) (.agg #[.int .i64 of2, .string bs2])).run Tryz.prog w = .ok (.bool E) w := fun w => by rw [← hE]; exact eqlM_data ⟨of, bs⟩ ⟨of2, bs2⟩ w
                          clear hm hn hcell hcell' hb hb' hE
                          cases f
                          · go_wp2_with fail
                            go_quiet (fail)
                            go_wp2_with fail
                            go_roundw
                            case rel => exact ⟨k + 1, _, by omega, by go_num, rfl, same_step HA.out HM.out HN.out rfl, below_drewN HB.out _⟩
                            case measure => simp [Go.RowKit.intOf]; omega
                          · go_wp2_with fail
                            go_quiet (fail)
                            go_wp2_with fail
                            go_roundw
                            case rel => exact ⟨k + 1, _, by omega, by go_num, rfl, same_step HA.out HM.out HN.out (by rw [← HE9.out]; rfl), below_drewN HB.out _⟩
                            case measure => simp [Go.RowKit.intOf]; omega
                        · obtain rfl : k = m.data.length := by omega
                          have hd : decide ((m.data.length : Int) < (m.data.length : Int)) = false := by simp
                          have hd2 : decide (m.data.length < m.data.length) = false := by simp
                          have HE5 := Lib.hid (same_end HL5.out HA.out)
                          have HBE5 := Lib.hid HB.out
                          obtain ⟨w8, rfl⟩ : ∃ w8, w8 = wr := ⟨_, rfl⟩
                          obtain ⟨f5, hf5⟩ : ∃ f5, f5 = f := ⟨_, rfl⟩
                          subst hf5
                          clear HA HB HB2
                          go_wp2_with fail
                          have HFIN := Lib.hid (show ANS = f5 by rw [HE5.out, HR.out, ← HV5.out, HE4.out, ← HV4.out, HE3.out, ← HV3.out, HE2.out, ← HV2.out, HE1.out, ← HV1.out, HE0.out, ← HV0.out]; simp only [Bool.true_and, Bool.and_assoc])
                          go_ret
                          exact ⟨by rw [HFIN.out]; rfl, B0.out.trans (HBE5.out.mono B0.out.size)⟩
end Go.Proofs.YtkemaonhchklmaaGreatDoor.Mod
