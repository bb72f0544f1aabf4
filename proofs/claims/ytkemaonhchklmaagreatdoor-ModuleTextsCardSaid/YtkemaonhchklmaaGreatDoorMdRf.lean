/-
  ModRefNP, ModRefA, ModRefS, ModRefB, ModRefC in one.
-/
import Derived.Lib.ValidLaws
import Derived.Test.YtkemaonhchklmaaGreatDoorModRight
import Derived.Test.YtkemaonhchklmaaGreatDoorModStruct
import Derived.Test.YtkemaonhchklmaaGreatDoorOpRf
/- ModRefNP: UTF-8, read by lead bytes and numbers: as the library's tables say. Plain. -/
namespace Go.Proofs.YtkemaonhchklmaaGreatDoor.Mod
open Go.RowKit Go.Lib
set_option linter.unusedVariables false
/-- how many bytes follow a lead byte; none: it is no lead -/
def leadN (b : Nat) : Nat := if b < 194 then 0 else if b < 224 then 1 else if b < 240 then 2 else if b < 245 then 3 else 0
def leadC (b : Nat) : Nat := if b < 224 then b % 32 else if b < 240 then b % 16 else b % 8
/-- the number of a lead and k - 1 bytes behind it -/
def codeN (B : Nat → Nat) : Nat → Nat
  | 0 => 0
  | 1 => leadC (B 0)
  | k + 2 => codeN B (k + 1) * 64 + B (k + 1) % 64
def badN (n code : Nat) : Prop := (n = 2 ∧ (code < 2048 ∨ (55296 ≤ code ∧ code < 57344))) ∨ (n = 3 ∧ (code < 65536 ∨ 1114111 < code))
instance (n code : Nat) : Decidable (badN n code) := by unfold badN; infer_instance
theorem chk_1 {n b0 b1 b2 b3 : Nat} (h : 194 ≤ b0 ∧ b0 < 224) : checkN n b1 b2 b3 (firstT b0 % 8) (accLo (firstT b0 / 16)) (accHi (firstT b0 / 16)) = if 2 ≤ n ∧ b1 / 64 = 2 then some 2 else none := by
  have hf : firstT b0 = 2 := by unfold firstT; rw [if_neg (by omega), if_neg (by omega), if_pos (by omega)]
  rw [hf]
  show (if (2 : Nat) = 2 then (if n < 2 ∨ b1 < 128 ∨ 191 < b1 then none else some 2) else _) = _
  rw [if_pos rfl]
  by_cases c : 2 ≤ n ∧ b1 / 64 = 2
  · rw [if_pos c, if_neg (by omega)]
  · rw [if_neg c, if_pos (by omega)]
theorem chk_2 {n b0 b1 b2 b3 : Nat} (h : 224 ≤ b0 ∧ b0 < 240) : checkN n b1 b2 b3 (firstT b0 % 8) (accLo (firstT b0 / 16)) (accHi (firstT b0 / 16)) = if (3 ≤ n ∧ b1 / 64 = 2 ∧ b2 / 64 = 2) ∧ ¬ badN 2 ((b0 % 16 * 64 + b1 % 64) * 64 + b2 % 64) then some 3 else none := by
  have key : ∀ f lo hi, firstT b0 = f → f % 8 = 3 → accLo (f / 16) = lo → accHi (f / 16) = hi → ((lo ≤ b1 ∧ b1 ≤ hi ∧ b2 / 64 = 2) ↔ ((b1 / 64 = 2 ∧ b2 / 64 = 2) ∧ ¬ badN 2 ((b0 % 16 * 64 + b1 % 64) * 64 + b2 % 64))) → checkN n b1 b2 b3 (firstT b0 % 8) (accLo (firstT b0 / 16)) (accHi (firstT b0 / 16)) = if (3 ≤ n ∧ b1 / 64 = 2 ∧ b2 / 64 = 2) ∧ ¬ badN 2 ((b0 % 16 * 64 + b1 % 64) * 64 + b2 % 64) then some 3 else none := fun f lo hi e1 e2 e3 e4 hx => by
    rw [e1, e2, e3, e4]
    show (if (3 : Nat) = 2 then _ else if (3 : Nat) = 3 then (if n < 3 ∨ b1 < lo ∨ hi < b1 ∨ b2 < 128 ∨ 191 < b2 then none else some 3) else _) = _
    rw [if_neg (by decide), if_pos rfl]
    by_cases c : (3 ≤ n ∧ b1 / 64 = 2 ∧ b2 / 64 = 2) ∧ ¬ badN 2 ((b0 % 16 * 64 + b1 % 64) * 64 + b2 % 64)
    · rw [if_pos c, if_neg]
      have := hx.2 ⟨c.1.2, c.2⟩
      omega
    · rw [if_neg c, if_pos]
      by_cases c3 : n < 3
      · exact .inl c3
      · have : ¬ (lo ≤ b1 ∧ b1 ≤ hi ∧ b2 / 64 = 2) := fun h => c ⟨⟨by omega, (hx.1 h).1⟩, (hx.1 h).2⟩
        omega
  unfold badN at *
  by_cases c1 : b0 = 224
  · exact key 19 160 191 (by rw [c1]; rfl) (by decide) (by decide) (by decide) (by omega)
  by_cases c2 : b0 = 237
  · exact key 35 128 159 (by rw [c2]; rfl) (by decide) (by decide) (by decide) (by omega)
  · exact key 3 128 191 (by unfold firstT; rw [if_neg (by omega), if_neg (by omega), if_neg (by omega), if_neg (by omega)]; by_cases c3 : b0 < 237; (· rw [if_pos c3]); (· rw [if_neg c3, if_neg c2, if_pos (by omega)])) (by decide) (by decide) (by decide) (by omega)
theorem chk_3 {n b0 b1 b2 b3 : Nat} (h : 240 ≤ b0 ∧ b0 < 245) : checkN n b1 b2 b3 (firstT b0 % 8) (accLo (firstT b0 / 16)) (accHi (firstT b0 / 16)) = if (4 ≤ n ∧ b1 / 64 = 2 ∧ b2 / 64 = 2 ∧ b3 / 64 = 2) ∧ ¬ badN 3 (((b0 % 8 * 64 + b1 % 64) * 64 + b2 % 64) * 64 + b3 % 64) then some 4 else none := by
  have key : ∀ f lo hi, firstT b0 = f → f % 8 = 4 → accLo (f / 16) = lo → accHi (f / 16) = hi → ((lo ≤ b1 ∧ b1 ≤ hi ∧ b2 / 64 = 2 ∧ b3 / 64 = 2) ↔ ((b1 / 64 = 2 ∧ b2 / 64 = 2 ∧ b3 / 64 = 2) ∧ ¬ badN 3 (((b0 % 8 * 64 + b1 % 64) * 64 + b2 % 64) * 64 + b3 % 64))) → checkN n b1 b2 b3 (firstT b0 % 8) (accLo (firstT b0 / 16)) (accHi (firstT b0 / 16)) = if (4 ≤ n ∧ b1 / 64 = 2 ∧ b2 / 64 = 2 ∧ b3 / 64 = 2) ∧ ¬ badN 3 (((b0 % 8 * 64 + b1 % 64) * 64 + b2 % 64) * 64 + b3 % 64) then some 4 else none := fun f lo hi e1 e2 e3 e4 hx => by
    rw [e1, e2, e3, e4]
    show (if (4 : Nat) = 2 then _ else if (4 : Nat) = 3 then _ else if (4 : Nat) = 4 then (if n < 4 ∨ b1 < lo ∨ hi < b1 ∨ b2 < 128 ∨ 191 < b2 ∨ b3 < 128 ∨ 191 < b3 then none else some 4) else _) = _
    rw [if_neg (by decide), if_neg (by decide), if_pos rfl]
    by_cases c : (4 ≤ n ∧ b1 / 64 = 2 ∧ b2 / 64 = 2 ∧ b3 / 64 = 2) ∧ ¬ badN 3 (((b0 % 8 * 64 + b1 % 64) * 64 + b2 % 64) * 64 + b3 % 64)
    · rw [if_pos c, if_neg]
      have := hx.2 ⟨c.1.2, c.2⟩
      omega
    · rw [if_neg c, if_pos]
      by_cases c3 : n < 4
      · exact .inl c3
      · have : ¬ (lo ≤ b1 ∧ b1 ≤ hi ∧ b2 / 64 = 2 ∧ b3 / 64 = 2) := fun h => c ⟨⟨by omega, (hx.1 h).1⟩, (hx.1 h).2⟩
        omega
  unfold badN at *
  by_cases c1 : b0 = 240
  · exact key 52 144 191 (by rw [c1]; rfl) (by decide) (by decide) (by decide) (by omega)
  by_cases c2 : b0 = 244
  · exact key 68 128 143 (by rw [c2]; rfl) (by decide) (by decide) (by decide) (by omega)
  · exact key 4 128 191 (by unfold firstT; rw [if_neg (by omega), if_neg (by omega), if_neg (by omega), if_neg (by omega), if_neg (by omega), if_neg (by omega), if_neg (by omega), if_neg c1, if_pos (by omega)]) (by decide) (by decide) (by decide) (by omega)
theorem chk_0 {n b0 b1 b2 b3 : Nat} (h : (128 ≤ b0 ∧ b0 < 194) ∨ (245 ≤ b0 ∧ b0 < 256)) : checkN n b1 b2 b3 (firstT b0 % 8) (accLo (firstT b0 / 16)) (accHi (firstT b0 / 16)) = none := by
  have hf : firstT b0 = 241 := by
    unfold firstT
    rw [if_neg (by omega)]
    by_cases c : b0 < 194
    · rw [if_pos c]
    · rw [if_neg c, if_neg (by omega), if_neg (by omega), if_neg (by omega), if_neg (by omega), if_neg (by omega), if_neg (by omega), if_neg (by omega), if_neg (by omega)]
  rw [hf]
  rfl
def byteAt (l : List UInt8) (j : Nat) : Nat := (l.getD j 0).toNat
theorem byte_in {l : List UInt8} {j : Nat} (h : byteAt l j / 64 = 2) : j < l.length := by
  apply Classical.byContradiction
  intro hn
  unfold byteAt at h
  rw [List.getD_eq_getElem?_getD, List.getElem?_eq_none (by omega)] at h
  exact absurd h (by decide)
open Classical in
/-- a step of reading a name -/
theorem name_lead (l : List UInt8) (hne : l ≠ []) (h0 : 128 ≤ byteAt l 0) :
    validD l = if leadN (byteAt l 0) = 0 then false else if (∀ j, 1 ≤ j → j ≤ leadN (byteAt l 0) → byteAt l j / 64 = 2) ∧ ¬ badN (leadN (byteAt l 0)) (codeN (byteAt l) (leadN (byteAt l 0) + 1)) then validD (l.drop (leadN (byteAt l 0) + 1)) else false := by
  have hb : byteAt l 0 < 256 := (l.getD 0 0).toNat_lt
  rw [validD_lead l hne h0]
  show (match checkN l.length (byteAt l 1) (byteAt l 2) (byteAt l 3) (firstT (byteAt l 0) % 8) (accLo (firstT (byteAt l 0) / 16)) (accHi (firstT (byteAt l 0) / 16)) with | none => false | some k => validD (l.drop k)) = _
  have cases4 : ((128 ≤ byteAt l 0 ∧ byteAt l 0 < 194) ∨ (245 ≤ byteAt l 0 ∧ byteAt l 0 < 256)) ∨ (194 ≤ byteAt l 0 ∧ byteAt l 0 < 224) ∨ (224 ≤ byteAt l 0 ∧ byteAt l 0 < 240) ∨ (240 ≤ byteAt l 0 ∧ byteAt l 0 < 245) := by omega
  rcases cases4 with h | h | h | h
  · rw [chk_0 h, if_pos]
    unfold leadN
    rcases h with h | h
    · rw [if_pos (by omega)]
    · rw [if_neg (by omega), if_neg (by omega), if_neg (by omega), if_neg (by omega)]
  · have hl : leadN (byteAt l 0) = 1 := by unfold leadN; rw [if_neg (by omega), if_pos (by omega)]
    rw [chk_1 h, hl, if_neg (show ¬ (1 = 0) by decide)]
    have e : (2 ≤ l.length ∧ byteAt l 1 / 64 = 2) ↔ ((∀ j, 1 ≤ j → j ≤ 1 → byteAt l j / 64 = 2) ∧ ¬ badN 1 (codeN (byteAt l) (1 + 1))) := by
      constructor
      · intro hx
        refine ⟨fun j h1 h2 => ?_, ?_⟩
        · obtain rfl : j = 1 := by omega
          exact hx.2
        · unfold badN
          omega
      · intro hx
        have := hx.1 1 (by omega) (by omega)
        exact ⟨byte_in this, this⟩
    by_cases c : 2 ≤ l.length ∧ byteAt l 1 / 64 = 2
    · rw [if_pos c, if_pos (e.1 c)]
    · rw [if_neg c, if_neg (fun h => c (e.2 h))]
  · have hl : leadN (byteAt l 0) = 2 := by unfold leadN; rw [if_neg (by omega), if_neg (by omega), if_pos (by omega)]
    have hc : leadC (byteAt l 0) = byteAt l 0 % 16 := by unfold leadC; rw [if_neg (by omega), if_pos (by omega)]
    rw [chk_2 h, hl, if_neg (show ¬ (2 = 0) by decide)]
    have hcode : codeN (byteAt l) (2 + 1) = (byteAt l 0 % 16 * 64 + byteAt l 1 % 64) * 64 + byteAt l 2 % 64 := by
      show (leadC (byteAt l 0) * 64 + byteAt l 1 % 64) * 64 + byteAt l 2 % 64 = _
      rw [hc]
    rw [hcode]
    have e : (3 ≤ l.length ∧ byteAt l 1 / 64 = 2 ∧ byteAt l 2 / 64 = 2) ↔ (∀ j, 1 ≤ j → j ≤ 2 → byteAt l j / 64 = 2) := by
      constructor
      · intro hx j h1 h2
        rcases (show j = 1 ∨ j = 2 by omega) with rfl | rfl
        · exact hx.2.1
        · exact hx.2.2
      · intro hx
        have h2 := hx 2 (by omega) (by omega)
        exact ⟨byte_in h2, hx 1 (by omega) (by omega), h2⟩
    by_cases c : (3 ≤ l.length ∧ byteAt l 1 / 64 = 2 ∧ byteAt l 2 / 64 = 2) ∧ ¬ badN 2 ((byteAt l 0 % 16 * 64 + byteAt l 1 % 64) * 64 + byteAt l 2 % 64)
    · rw [if_pos c, if_pos ⟨e.1 c.1, c.2⟩]
    · rw [if_neg c, if_neg (fun h => c ⟨e.2 h.1, h.2⟩)]
  · have hl : leadN (byteAt l 0) = 3 := by unfold leadN; rw [if_neg (by omega), if_neg (by omega), if_neg (by omega), if_pos (by omega)]
    have hc : leadC (byteAt l 0) = byteAt l 0 % 8 := by unfold leadC; rw [if_neg (by omega), if_neg (by omega)]
    rw [chk_3 h, hl, if_neg (show ¬ (3 = 0) by decide)]
    have hcode : codeN (byteAt l) (3 + 1) = ((byteAt l 0 % 8 * 64 + byteAt l 1 % 64) * 64 + byteAt l 2 % 64) * 64 + byteAt l 3 % 64 := by
      show ((leadC (byteAt l 0) * 64 + byteAt l 1 % 64) * 64 + byteAt l 2 % 64) * 64 + byteAt l 3 % 64 = _
      rw [hc]
    rw [hcode]
    have e : (4 ≤ l.length ∧ byteAt l 1 / 64 = 2 ∧ byteAt l 2 / 64 = 2 ∧ byteAt l 3 / 64 = 2) ↔ (∀ j, 1 ≤ j → j ≤ 3 → byteAt l j / 64 = 2) := by
      constructor
      · intro hx j h1 h2
        rcases (show j = 1 ∨ j = 2 ∨ j = 3 by omega) with rfl | rfl | rfl
        · exact hx.2.1
        · exact hx.2.2.1
        · exact hx.2.2.2
      · intro hx
        have h3 := hx 3 (by omega) (by omega)
        exact ⟨byte_in h3, hx 1 (by omega) (by omega), hx 2 (by omega) (by omega), h3⟩
    by_cases c : (4 ≤ l.length ∧ byteAt l 1 / 64 = 2 ∧ byteAt l 2 / 64 = 2 ∧ byteAt l 3 / 64 = 2) ∧ ¬ badN 3 (((byteAt l 0 % 8 * 64 + byteAt l 1 % 64) * 64 + byteAt l 2 % 64) * 64 + byteAt l 3 % 64)
    · rw [if_pos c, if_pos ⟨e.1 c.1, c.2⟩]
    · rw [if_neg c, if_neg (fun h => c ⟨e.2 h.1, h.2⟩)]
theorem name_lead0 {l : List UInt8} (hne : l ≠ []) (h0 : 128 ≤ byteAt l 0) (h : leadN (byteAt l 0) = 0) : validD l = false := by rw [name_lead l hne h0, if_pos h]
theorem name_bad {l : List UInt8} (hne : l ≠ []) (h0 : 128 ≤ byteAt l 0) {N : Nat} (hN : leadN (byteAt l 0) = N) (h1 : 1 ≤ N) {j : Nat} (j1 : 1 ≤ j) (j2 : j ≤ N) (h : ¬ byteAt l j / 64 = 2) : validD l = false := by
  rw [name_lead l hne h0, if_neg (by omega), if_neg (fun k => h (k.1 j j1 (by omega)))]
theorem name_badc {l : List UInt8} (hne : l ≠ []) (h0 : 128 ≤ byteAt l 0) {N : Nat} (hN : leadN (byteAt l 0) = N) (h1 : 1 ≤ N) (h : badN N (codeN (byteAt l) (N + 1))) : validD l = false := by
  subst hN
  rw [name_lead l hne h0, if_neg (by omega), if_neg (fun k => k.2 h)]
theorem name_go {l : List UInt8} (hne : l ≠ []) (h0 : 128 ≤ byteAt l 0) {N : Nat} (hN : leadN (byteAt l 0) = N) (h1 : 1 ≤ N) (hg : ∀ j, 1 ≤ j → j ≤ N → byteAt l j / 64 = 2) (h : ¬ badN N (codeN (byteAt l) (N + 1))) : validD l = validD (l.drop (N + 1)) := by
  subst hN
  rw [name_lead l hne h0, if_neg (by omega), if_pos ⟨hg, h⟩]
theorem codeN_lt (B : Nat → Nat) (h : leadC (B 0) < 32) : ∀ k, codeN B (k + 1) < 32 * 64 ^ k
  | 0 => by show leadC (B 0) < _; omega
  | k + 1 => by
    have := codeN_lt B h k
    show codeN B (k + 1) * 64 + B (k + 1) % 64 < 32 * 64 ^ (k + 1)
    rw [Nat.pow_succ, ← Nat.mul_assoc]
    have h2 : B (k + 1) % 64 < 64 := Nat.mod_lt _ (by decide)
    omega
theorem leadC_lt (b : Nat) : leadC b < 32 := by
  unfold leadC
  by_cases h1 : b < 224
  · rw [if_pos h1]; omega
  · rw [if_neg h1]
    by_cases h2 : b < 240
    · rw [if_pos h2]; omega
    · rw [if_neg h2]; omega
end Go.Proofs.YtkemaonhchklmaaGreatDoor.Mod

/- ModRefA: What the reference's word, small, types, Name of chapter 4 answer. No condition beyond what each theorem names. -/
namespace Go.Proofs.YtkemaonhchklmaaGreatDoor.Mod
open Go.RowKit Go.Maps Go.Proofs.YtkemaonhchklmaaGreatDoor.Op
set_option linter.unusedVariables false
set_option linter.unusedSimpArgs false
theorem rmword_any (n : Int) (w : World) (b : Bool) (hb : wordB n = b) :
    Calls Tryz.prog 35 #[.int .i64 n] w fun e w' => e = .returned (.bool b) ∧ w = w' := by
  have HB := Lib.hid hb
  clear hb
  go_enter Tryz.func35, Tryz.ntmps35
  go_wp2_with fail
  all_goals
    go_ret
    refine ⟨?_, rfl⟩
    refine congrArg (fun b => Ending.returned (.bool b)) ?_
    rw [← HB.out, Bool.eq_iff_iff]
    unfold wordB
    simp
    try omega
theorem rsmall_any (n : Int) (w : World) (b : Bool) (hb : (n == wrap32 n) = b) :
    Calls Tryz.prog 38 #[.int .i64 n] w fun e w' => e = .returned (.bool b) ∧ w = w' := by
  have hv : (n == wrap32 n) = (decide (-2147483648 ≤ n) && decide (n < 2147483648)) := by
    unfold wrap32
    rw [Bool.eq_iff_iff]
    simp
    omega
  rw [hv] at hb
  have HB := Lib.hid hb
  clear hb hv
  by_cases h1 : -2147483648 ≤ n
  · have d1 : decide (-2147483648 ≤ n) = true := decide_eq_true h1
    by_cases h2 : n < 2147483648
    · have d2 : decide (n < 2147483648) = true := decide_eq_true h2
      go_enter Tryz.func38, Tryz.ntmps38
      go_wp2_with fail
      go_ret
      exact ⟨by rw [← HB.out, d1, d2]; rfl, rfl⟩
    · have d2 : decide (n < 2147483648) = false := decide_eq_false h2
      go_enter Tryz.func38, Tryz.ntmps38
      go_wp2_with fail
      go_ret
      exact ⟨by rw [← HB.out, d1, d2]; rfl, rfl⟩
  · have d1 : decide (-2147483648 ≤ n) = false := decide_eq_false h1
    go_enter Tryz.func38, Tryz.ntmps38
    go_wp2_with fail
    go_ret
    exact ⟨by rw [← HB.out, d1]; rfl, rfl⟩
set_option maxRecDepth 100000 in
set_option maxHeartbeats 2000000 in
theorem rmtypes_any (s : ByteArray) (m : Int) (w : World) (hs : s.size ≤ 9223372036854775807) (b : Bool) (hb : typesB s m = b) :
    Calls Tryz.prog 36 #[.string s, .int .i64 m] w fun e w' => e = .returned (.bool b) ∧ w = w' := by
  have HB := Lib.hid hb
  clear hb
  go_enter Tryz.func36, Tryz.ntmps36
  go_wp2_with fail
  go_loop [5] (fun i => ∃ j : Nat, j ≤ s.size ∧ i = .int .i64 j ∧ (s.data.toList.all fun c => c == 127 || c == 126) = ((s.data.toList.drop j).all fun c => c == 127 || c == 126)) (fun i => s.size - (Go.RowKit.intOf i).toNat)
  case atStart => exact ⟨0, Nat.zero_le _, rfl, rfl⟩
  case round =>
    obtain ⟨j, hj, rfl, ha⟩ := hrel
    have HA := Lib.hid ha
    clear ha
    by_cases hlt : j < s.size
    · have d1 : decide ((j : Int) < (s.size : Int)) = true := decide_eq_true (by omega)
      have d1' : decide (j < s.size) = true := decide_eq_true hlt
      obtain ⟨c, hc⟩ : ∃ c, s[j]'hlt = c := ⟨_, rfl⟩
      have HD := Lib.hid (show s.data.toList.drop j = c :: s.data.toList.drop (j + 1) by rw [List.drop_eq_getElem_cons (by rw [Array.length_toList]; exact hlt)]; congr 1)
      by_cases h7 : c = 127
      · subst h7
        have HN := Lib.hid (HA.out.trans (show _ = ((s.data.toList.drop (j + 1)).all fun c => c == 127 || c == 126) by rw [HD.out]; rfl))
        go_wp2_with fail
        go_round
        case rel => exact ⟨j + 1, by omega, by go_num, HN.out⟩
        case measure => simp [Go.RowKit.intOf]; omega
      · by_cases h6 : c = 126
        · subst h6
          have HN := Lib.hid (HA.out.trans (show _ = ((s.data.toList.drop (j + 1)).all fun c => c == 127 || c == 126) by rw [HD.out]; rfl))
          go_wp2_with fail
          go_round
          case rel => exact ⟨j + 1, by omega, by go_num, HN.out⟩
          case measure => simp [Go.RowKit.intOf]; omega
        · have e7 : ((c.toNat : Int) == 127) = false := by
            rw [beq_eq_false_iff_ne]
            intro h9
            exact h7 (UInt8.toNat_inj.1 (by simp; omega))
          have e6 : ((c.toNat : Int) == 126) = false := by
            rw [beq_eq_false_iff_ne]
            intro h9
            exact h6 (UInt8.toNat_inj.1 (by simp; omega))
          have e7' : ((c.toNat : Int) != 127) = true := by rw [bne, e7]; rfl
          have e6' : ((c.toNat : Int) != 126) = true := by rw [bne, e6]; rfl
          have HF := Lib.hid (show b = false by rw [← HB.out]; unfold typesB; rw [HA.out, HD.out, List.all_cons, show (c == 127) = false from beq_eq_false_iff_ne.2 h7, show (c == 126) = false from beq_eq_false_iff_ne.2 h6]; simp)
          go_wp2_with fail
          go_ret
          exact ⟨by rw [HF.out]; rfl, rfl⟩
    · obtain rfl : j = s.size := by omega
      have d1 : decide ((s.size : Int) < (s.size : Int)) = false := decide_eq_false (by omega)
      have d1' : decide (s.size < s.size) = false := decide_eq_false hlt
      have HF := Lib.hid (show b = decide ((s.size : Int) ≤ m) by
        rw [← HB.out]
        unfold typesB
        rw [HA.out, List.drop_of_length_le (by rw [Array.length_toList]; exact Nat.le_refl _)]
        simp)
      obtain ⟨D, hD⟩ : ∃ D, decide ((s.size : Int) ≤ m) = D := ⟨_, rfl⟩
      rw [hD] at HF
      go_wp2_with fail
      go_ret
      exact ⟨by rw [HF.out]; rfl, rfl⟩
end Go.Proofs.YtkemaonhchklmaaGreatDoor.Mod

/- ModRefS: What the reference's Structured of chapter 4 answers of any code. No condition but that the code has room. -/
namespace Go.Proofs.YtkemaonhchklmaaGreatDoor.Mod
open Go.RowKit Go.Maps Go.Proofs.YtkemaonhchklmaaGreatDoor.Op
set_option linter.unusedVariables false
set_option maxRecDepth 100000 in
set_option maxHeartbeats 8000000 in
theorem rstruct_any (l : List InsL) (v : Value) (w : World) (hc : CodeAt w v l) (hroom : l.length * 48 ≤ 140737488355328) :
    Calls Tryz.prog 9 #[v] w fun e w' => e = .returned (.bool (structB [] (opsOf l))) ∧ Below w.heap.size w w' := by
  obtain ⟨la, cp, rfl, hle, hx⟩ := hc.form
  obtain ⟨i0, hi, hz0, hz1, hz2⟩ := info_parts info_int
  have HX := Lib.hid hx
  clear hx hc
  obtain ⟨ANS, hANS⟩ : ∃ ANS, structB [] (opsOf l) = ANS := ⟨_, rfl⟩
  have HANS := Lib.hid hANS
  rw [hANS]
  clear hANS
  go_enter Tryz.func9, Tryz.ntmps9
  go_wp2_with fail
  go_loopw [3, 4] (fun v i wr => RelT w l v i wr) (fun _ i _ => l.length + 1 - (intOf i).toNat)
  case atStart => exact ⟨0, [], Nat.zero_le _, rfl, rfl, Nat.le_refl _, World.ownsRow_nil _ _ _ _, Below.refl _ _⟩
  case round =>
    obtain ⟨k, st, hk, rfl, hst, hsl, hown, hB⟩ := hrel
    have HB := Lib.hid hB
    have HO := Lib.hid hown
    have HST := Lib.hid hst
    clear hst
    by_cases hlt : k < l.length
    · have hd : decide ((k : Int) < (l.length : Int)) = true := decide_eq_true (by omega)
      have hd2 : decide (k < l.length) = true := decide_eq_true hlt
      obtain ⟨⟨o, xa, xb, ls⟩, hm⟩ : ∃ m, l[k]? = some m := ⟨_, List.getElem?_eq_getElem hlt⟩
      obtain ⟨r, ⟨lv, rfl, hil, _⟩, _, b, off, rfl, hb, hcell⟩ := HX.out k _ hm
      obtain ⟨lva, lvc, rfl⟩ := intsAt_form hil
      have c0 : wr.cell? ⟨b, off + k * 4, none⟩ = some (.int .i64 o) := cell_later hB (hcell 0 _ rfl)
      have c1 : wr.cell? ⟨b, off + k * 4 + 1, none⟩ = some (.int .i64 xa) := cell_later hB (hcell 1 _ rfl)
      have c2 : wr.cell? ⟨b, off + k * 4 + 2, none⟩ = some (.int .i64 xb) := cell_later hB (hcell 2 _ rfl)
      have c3 : wr.cell? ⟨b, off + k * 4 + 3, none⟩ = some (.slice lva ls.length lvc) := cell_later hB (hcell 3 _ rfl)
      have HD := Lib.hid (show (opsOf l).drop k = o :: (opsOf l).drop (k + 1) from ops_drop hm)
      obtain ⟨va, vc, hv⟩ : ∃ a c, u3 = .slice a st.length c := by
        rcases hown.2 with ⟨h1, h2⟩ | ⟨gg, cc, cur, h1, _⟩
        · exact ⟨none, 0, by rw [h2]; exact h1⟩
        · exact ⟨_, cc, h1⟩
      subst hv
      clear hm hown hB hcell hil
      rcases (show o = 2 ∨ o = 3 ∨ o = 4 ∨ o = 5 ∨ o = 11 ∨ (o ≠ 2 ∧ o ≠ 3 ∧ o ≠ 4 ∧ o ≠ 5 ∧ o ≠ 11) by omega) with ho | ho | ho | ho | ho | ⟨g2, g3, g4, g5, g11⟩
      · have q2 : (o == 2) = true := by rw [ho]; rfl
        have q3 : (o == 3) = false := by rw [ho]; rfl
        have q4 : (o == 4) = false := by rw [ho]; rfl
        have q5 : (o == 5) = false := by rw [ho]; rfl
        have q11 : (o == 11) = false := by rw [ho]; rfl
        have HN := Lib.hid (HST.out.trans ((congrArg (structB st) HD.out).trans (structB_go (show stepS st o = some (st ++ [o]) by unfold stepS; rw [if_pos (by omega)]) (fun h => absurd h.1 (by omega)))))
        clear ho
        have HNW := Lib.hid (show ∀ (j : Nat) (u : Value), [Value.int .i64 o][j]? = some u → (wr.alloc (.cells #[.int .i64 o] 3)).cell? ((⟨wr.heap.size, 0, none⟩ : Addr).add j) = some u from by
          have h9 := news_at wr #[.int .i64 o] 3 [.int .i64 o] rfl
          exact h9)
        have HC3 := Lib.hid (show st.length + 1 ≤ maxLen by unfold maxLen; omega)
        have HC4 := Lib.hid (show (st.length + 1) * 8 ≤ 140737488355328 by omega)
        have HC5 := Lib.hid (show w.heap.size ≤ (wr.alloc (.cells #[.int .i64 o] 3)).heap.size from Nat.le_trans HB.out.size (by simp))
        go_wp2_with (at_builtin; refine wpList_append_own _ rfl _ _ 38 rfl w.heap.size 3 i0 (.int .i64 0) 1 8 Tryz.underlying38 hi hz0 hz1 hz2 rfl (by decide) _ _ _ rfl (HO.out.alloc _) ⟨wr.heap.size, 0, none⟩ 1 1 [.int .i64 o] rfl rfl HNW.out (one_int [o]) HC3.out HC4.out HC5.out ?_)
        intro v' w1 hown1 hgrow _
        have HO1 := Lib.hid (show w1.ownsRow w.heap.size 3 1 v' (st ++ [o]).length (intsV (st ++ [o])) by rw [List.length_append]; unfold intsV; rw [List.map_append]; exact hown1)
        have HB1 := Lib.hid ((HB.out.alloc HB.out.size _).grown hgrow (Nat.le_trans HB.out.size (by simp)) (fun k hk => (HO.out.lt k hk).1))
        clear hown1 hgrow
        go_wp2_with fail
        go_roundw
        case rel => exact ⟨k + 1, st ++ [o], by omega, by go_num, HN.out, by simp; omega, HO1.out, HB1.out⟩
        case measure => simp [intOf]; omega
      · have q2 : (o == 2) = false := by rw [ho]; rfl
        have q3 : (o == 3) = true := by rw [ho]; rfl
        have q4 : (o == 4) = false := by rw [ho]; rfl
        have q5 : (o == 5) = false := by rw [ho]; rfl
        have q11 : (o == 11) = false := by rw [ho]; rfl
        have HN := Lib.hid (HST.out.trans ((congrArg (structB st) HD.out).trans (structB_go (show stepS st o = some (st ++ [o]) by unfold stepS; rw [if_pos (by omega)]) (fun h => absurd h.1 (by omega)))))
        clear ho
        have HNW := Lib.hid (show ∀ (j : Nat) (u : Value), [Value.int .i64 o][j]? = some u → (wr.alloc (.cells #[.int .i64 o] 3)).cell? ((⟨wr.heap.size, 0, none⟩ : Addr).add j) = some u from by
          have h9 := news_at wr #[.int .i64 o] 3 [.int .i64 o] rfl
          exact h9)
        have HC3 := Lib.hid (show st.length + 1 ≤ maxLen by unfold maxLen; omega)
        have HC4 := Lib.hid (show (st.length + 1) * 8 ≤ 140737488355328 by omega)
        have HC5 := Lib.hid (show w.heap.size ≤ (wr.alloc (.cells #[.int .i64 o] 3)).heap.size from Nat.le_trans HB.out.size (by simp))
        go_wp2_with (at_builtin; refine wpList_append_own _ rfl _ _ 38 rfl w.heap.size 3 i0 (.int .i64 0) 1 8 Tryz.underlying38 hi hz0 hz1 hz2 rfl (by decide) _ _ _ rfl (HO.out.alloc _) ⟨wr.heap.size, 0, none⟩ 1 1 [.int .i64 o] rfl rfl HNW.out (one_int [o]) HC3.out HC4.out HC5.out ?_)
        intro v' w1 hown1 hgrow _
        have HO1 := Lib.hid (show w1.ownsRow w.heap.size 3 1 v' (st ++ [o]).length (intsV (st ++ [o])) by rw [List.length_append]; unfold intsV; rw [List.map_append]; exact hown1)
        have HB1 := Lib.hid ((HB.out.alloc HB.out.size _).grown hgrow (Nat.le_trans HB.out.size (by simp)) (fun k hk => (HO.out.lt k hk).1))
        clear hown1 hgrow
        go_wp2_with fail
        go_roundw
        case rel => exact ⟨k + 1, st ++ [o], by omega, by go_num, HN.out, by simp; omega, HO1.out, HB1.out⟩
        case measure => simp [intOf]; omega
      · have q2 : (o == 2) = false := by rw [ho]; rfl
        have q3 : (o == 3) = false := by rw [ho]; rfl
        have q4 : (o == 4) = true := by rw [ho]; rfl
        have q5 : (o == 5) = false := by rw [ho]; rfl
        have q11 : (o == 11) = false := by rw [ho]; rfl
        have HN := Lib.hid (HST.out.trans ((congrArg (structB st) HD.out).trans (structB_go (show stepS st o = some (st ++ [o]) by unfold stepS; rw [if_pos (by omega)]) (fun h => absurd h.1 (by omega)))))
        clear ho
        have HNW := Lib.hid (show ∀ (j : Nat) (u : Value), [Value.int .i64 o][j]? = some u → (wr.alloc (.cells #[.int .i64 o] 3)).cell? ((⟨wr.heap.size, 0, none⟩ : Addr).add j) = some u from by
          have h9 := news_at wr #[.int .i64 o] 3 [.int .i64 o] rfl
          exact h9)
        have HC3 := Lib.hid (show st.length + 1 ≤ maxLen by unfold maxLen; omega)
        have HC4 := Lib.hid (show (st.length + 1) * 8 ≤ 140737488355328 by omega)
        have HC5 := Lib.hid (show w.heap.size ≤ (wr.alloc (.cells #[.int .i64 o] 3)).heap.size from Nat.le_trans HB.out.size (by simp))
        go_wp2_with (at_builtin; refine wpList_append_own _ rfl _ _ 38 rfl w.heap.size 3 i0 (.int .i64 0) 1 8 Tryz.underlying38 hi hz0 hz1 hz2 rfl (by decide) _ _ _ rfl (HO.out.alloc _) ⟨wr.heap.size, 0, none⟩ 1 1 [.int .i64 o] rfl rfl HNW.out (one_int [o]) HC3.out HC4.out HC5.out ?_)
        intro v' w1 hown1 hgrow _
        have HO1 := Lib.hid (show w1.ownsRow w.heap.size 3 1 v' (st ++ [o]).length (intsV (st ++ [o])) by rw [List.length_append]; unfold intsV; rw [List.map_append]; exact hown1)
        have HB1 := Lib.hid ((HB.out.alloc HB.out.size _).grown hgrow (Nat.le_trans HB.out.size (by simp)) (fun k hk => (HO.out.lt k hk).1))
        clear hown1 hgrow
        go_wp2_with fail
        go_roundw
        case rel => exact ⟨k + 1, st ++ [o], by omega, by go_num, HN.out, by simp; omega, HO1.out, HB1.out⟩
        case measure => simp [intOf]; omega
      · have q2 : (o == 2) = false := by rw [ho]; rfl
        have q3 : (o == 3) = false := by rw [ho]; rfl
        have q4 : (o == 4) = false := by rw [ho]; rfl
        have q5 : (o == 5) = true := by rw [ho]; rfl
        have q11 : (o == 11) = false := by rw [ho]; rfl
        rcases List.eq_nil_or_concat st with he | ⟨s0, x, he⟩
        · subst he
          have HF := Lib.hid (HST.out.trans ((congrArg (structB []) HD.out).trans (structB_bad (show stepS [] o = none by unfold stepS; rw [if_neg (by omega), if_pos ho, if_neg (by simp)]) (fun h => absurd h.1 (by omega)))))
          have HB1 := Lib.hid (HB.out)
          clear ho
          go_wp2_with fail
          go_ret
          exact ⟨by rw [← HANS.out, HF.out]; rfl, HB1.out⟩
        rw [List.concat_eq_append] at he
        subst he
        have hlen : (s0 ++ [x]).length = s0.length + 1 := by simp
        obtain ⟨gg, cc, hform⟩ := Go.Joins.ownsRow_form HO.out (by omega)
        simp only [Value.slice.injEq] at hform
        obtain ⟨rfl, _, rfl⟩ := hform
        have hgl := (HO.out.lt gg rfl)
        have d0 : wr.cell? ⟨gg, s0.length, none⟩ = some (.int .i64 x) := ints_at2 HO.out (by simp)
        have f0 : wr.frozen? ⟨gg, s0.length, none⟩ = false := HO.out.frozenAt _
        have hgl2 := hgl.2
        have hlx : s0.length < 9000000000000000 := by omega
        by_cases hx4 : x = 4
        · subst hx4
          have HN := Lib.hid (HST.out.trans ((congrArg (structB (s0 ++ [4])) HD.out).trans (structB_go (show stepS (s0 ++ [4]) o = some (s0 ++ [5]) by unfold stepS; rw [if_neg (by omega), if_pos ho, if_pos (by simp)]; simp) (fun h => absurd h.1 (by omega)))))
          have hst2 := HO.out.stored s0.length (.int .i64 5)
          have HO1 := Lib.hid (show (wr.setCell ⟨gg, s0.length, none⟩ (.int .i64 5)).ownsRow w.heap.size 3 1 (.slice (some ⟨gg, 0, none⟩) (s0.length + 1) vc) (s0 ++ [5]).length (intsV (s0 ++ [5])) by
            have h := hst2.1
            rw [show (intsV (s0 ++ [4])).set s0.length (.int .i64 5) = intsV (s0 ++ [5]) by unfold intsV; rw [List.map_append, List.map_append, List.set_append_right _ _ (by simp)]; simp] at h
            rw [hlen] at h
            rw [show (s0 ++ [(5 : Int)]).length = s0.length + 1 by simp]
            exact h)
          have hB5 := HB.out.setCell (p := ⟨gg, s0.length, none⟩) hgl.1 (.int .i64 5)
          have HB1 := Lib.hid (hB5)
          rw [hlen]
          clear ho hst2 hgl hB5
          go_wp2_with fail
          go_roundw
          case rel => exact ⟨k + 1, s0 ++ [5], by omega, by go_num, HN.out, by simp; omega, HO1.out, HB1.out⟩
          case measure => simp [intOf]; omega
        · have hx5 : (x != 4) = true := bne_iff_ne.2 hx4
          have HF := Lib.hid (HST.out.trans ((congrArg (structB (s0 ++ [x])) HD.out).trans (structB_bad (show stepS (s0 ++ [x]) o = none by unfold stepS; rw [if_neg (by omega), if_pos ho, if_neg (by simpa using hx4)]) (fun h => absurd h.1 (by omega)))))
          have HB1 := Lib.hid (HB.out)
          rw [hlen]
          clear ho hgl
          go_wp2_with fail
          go_ret
          exact ⟨by rw [← HANS.out, HF.out]; rfl, HB1.out⟩
      · have q2 : (o == 2) = false := by rw [ho]; rfl
        have q3 : (o == 3) = false := by rw [ho]; rfl
        have q4 : (o == 4) = false := by rw [ho]; rfl
        have q5 : (o == 5) = false := by rw [ho]; rfl
        have q11 : (o == 11) = true := by rw [ho]; rfl
        rcases List.eq_nil_or_concat st with he | ⟨s0, x, he⟩
        · subst he
          have HF := Lib.hid (show ANS = decide (k + 1 = l.length) by
            rw [← HANS.out, HST.out, HD.out, ho, structB_end]
            rw [Bool.eq_iff_iff, List.isEmpty_iff, List.drop_eq_nil_iff, decide_eq_true_iff]
            simp only [opsOf, List.length_map]
            omega)
          have HB1 := Lib.hid (HB.out)
          have hlx : l.length < 9000000000000000 := by omega
          clear ho
          by_cases hkl : k + 1 = l.length
          · have hq : ((k : Int) == (l.length : Int) - 1) = true := by rw [beq_iff_eq]; omega
            go_wp2_with fail
            go_ret
            exact ⟨by rw [HF.out, decide_eq_true hkl]; rfl, HB1.out⟩
          · have hq : ((k : Int) == (l.length : Int) - 1) = false := by rw [beq_eq_false_iff_ne]; omega
            go_wp2_with fail
            go_ret
            exact ⟨by rw [HF.out, decide_eq_false hkl]; rfl, HB1.out⟩
        rw [List.concat_eq_append] at he
        subst he
        have HN := Lib.hid (HST.out.trans ((congrArg (structB (s0 ++ [x])) HD.out).trans (structB_go (show stepS (s0 ++ [x]) o = some s0 by unfold stepS; rw [if_neg (by omega), if_neg (by omega), if_pos ho, if_neg (by simp)]; simp) (by simp))))
        have hlen : (s0 ++ [x]).length = s0.length + 1 := by simp
        obtain ⟨gg, cc, hform⟩ := Go.Joins.ownsRow_form HO.out (by omega)
        simp only [Value.slice.injEq] at hform
        obtain ⟨rfl, _, rfl⟩ := hform
        have hcap : s0.length + 1 ≤ vc := by
          rcases HO.out.2 with ⟨h', _⟩ | ⟨g', cap', cur, h', _, _, hc, _⟩
          · simp at h'
          · simp only [Value.slice.injEq] at h'
            omega
        have HO1 := Lib.hid (show wr.ownsRow w.heap.size 3 1 (.slice (some ⟨gg, 0, none⟩) s0.length vc) s0.length (intsV s0) by
          have h := ownsRow_take HO.out (m := s0.length) (by omega)
          rw [Nat.mul_one] at h
          unfold intsV at h
          rw [List.map_append, List.take_left' (by simp)] at h
          exact h)
        have HB1 := Lib.hid (HB.out)
        have hlx : s0.length < 9000000000000000 := by omega
        rw [hlen]
        clear ho
        go_wp2_with fail
        go_roundw
        case rel => exact ⟨k + 1, s0, by omega, by go_num, HN.out, by omega, HO1.out, HB1.out⟩
        case measure => simp [intOf]; omega
      · have q2 : (o == 2) = false := beq_eq_false_iff_ne.2 g2
        have q3 : (o == 3) = false := beq_eq_false_iff_ne.2 g3
        have q4 : (o == 4) = false := beq_eq_false_iff_ne.2 g4
        have q5 : (o == 5) = false := beq_eq_false_iff_ne.2 g5
        have q11 : (o == 11) = false := beq_eq_false_iff_ne.2 g11
        have HN := Lib.hid (HST.out.trans ((congrArg (structB st) HD.out).trans (structB_go (show stepS st o = some st by unfold stepS; rw [if_neg (by omega), if_neg g5, if_neg g11]) (fun h => absurd h.1 g11))))
        have HO1 := Lib.hid HO.out
        have HB1 := Lib.hid (HB.out)
        have hlx : st.length < 9000000000000000 := by omega
        clear g2 g3 g4 g5 g11
        go_wp2_with fail
        go_roundw
        case rel => exact ⟨k + 1, st, by omega, by go_num, HN.out, by omega, HO1.out, HB1.out⟩
        case measure => simp [intOf]; omega
    · obtain rfl : k = l.length := by omega
      have hd : decide ((l.length : Int) < (l.length : Int)) = false := by simp
      have hd2 : decide (l.length < l.length) = false := by simp
      have HF := Lib.hid (show ANS = false by
        rw [← HANS.out, HST.out, List.drop_of_length_le (by simp [opsOf])]
        cases st <;> rfl)
      clear hown hB
      go_wp2_with fail
      go_ret
      exact ⟨by rw [HF.out]; rfl, HB.out⟩
end Go.Proofs.YtkemaonhchklmaaGreatDoor.Mod

/- ModRefB: What the reference's Name of chapter 4 answers. No condition but that the text has room. -/
namespace Go.Proofs.YtkemaonhchklmaaGreatDoor.Mod
open Go.RowKit Go.Maps Go.Proofs.YtkemaonhchklmaaGreatDoor.Op Go.Lib
set_option linter.unusedVariables false
set_option linter.unusedSimpArgs false
theorem drop_at (l : List UInt8) (i j : Nat) : byteAt (l.drop i) j = byteAt l (i + j) := by
  unfold byteAt
  rw [List.getD_eq_getElem?_getD, List.getD_eq_getElem?_getD, List.getElem?_drop]
theorem pow64 (q : Nat) (h : q ≤ 3) : 32 * 64 ^ q ≤ 8388608 := by
  rcases (show q = 0 ∨ q = 1 ∨ q = 2 ∨ q = 3 by omega) with rfl | rfl | rfl | rfl <;> decide
theorem codeN_b (B : Nat → Nat) (q : Nat) (h1 : 1 ≤ q) (h4 : q ≤ 4) : codeN B q < 8388608 := by
  obtain ⟨r, rfl⟩ : ∃ r, q = r + 1 := ⟨q - 1, by omega⟩
  exact Nat.lt_of_lt_of_le (codeN_lt B (leadC_lt _) r) (pow64 r (by omega))
theorem codeN_succ (B : Nat → Nat) (q : Nat) (h1 : 1 ≤ q) : codeN B (q + 1) = codeN B q * 64 + B q % 64 := by
  obtain ⟨r, rfl⟩ : ∃ r, q = r + 1 := ⟨q - 1, by omega⟩
  rfl
theorem byte_get (s : ByteArray) (j : Nat) (h : j < s.size) : byteAt s.data.toList j = (s[j]'h).toNat := by
  unfold byteAt
  rw [List.getD_eq_getElem?_getD, List.getElem?_eq_getElem (by rw [Array.length_toList]; exact h)]
  rfl
theorem byte_out (s : ByteArray) (j : Nat) (h : s.size ≤ j) : byteAt s.data.toList j = 0 := by
  unfold byteAt
  rw [List.getD_eq_getElem?_getD, List.getElem?_eq_none (by rw [Array.length_toList]; exact h)]
  rfl

set_option maxRecDepth 100000 in
set_option maxHeartbeats 8000000 in
theorem rname_any (s : ByteArray) (w : World) (hs : s.size ≤ 140737488355328) (ANS : Bool) (hA : nameB s = ANS) :
    Calls Tryz.prog 11 #[.string s] w fun e w' => e = .returned (.bool ANS) ∧ w = w' := by
  have HANS := Lib.hid (show validD s.data.toList = ANS from hA)
  clear hA
  have hsi : (s.size : Int) ≤ 140737488355328 := by omega
  go_enter Tryz.func11, Tryz.ntmps11
  go_wp2_with fail
  go_loop [3] (fun i => ∃ j : Nat, j ≤ s.size ∧ i = .int .i64 j ∧ validD (s.data.toList.drop j) = ANS) (fun i => s.size - (Go.RowKit.intOf i).toNat)
  case atStart => exact ⟨0, Nat.zero_le _, rfl, HANS.out⟩
  case round =>
    obtain ⟨i, hi, rfl, ha⟩ := hrel
    have HA := Lib.hid ha
    clear ha
    by_cases hlt : i < s.size
    · have d1 : decide ((i : Int) < (s.size : Int)) = true := decide_eq_true (by omega)
      have d1' : decide (i < s.size) = true := decide_eq_true hlt
      obtain ⟨c, hc⟩ : ∃ c, s[i]'hlt = c := ⟨_, rfl⟩
      have HD := Lib.hid (show s.data.toList.drop i = c :: s.data.toList.drop (i + 1) by rw [List.drop_eq_getElem_cons (by rw [Array.length_toList]; exact hlt)]; congr 1)
      obtain ⟨b, hb⟩ : ∃ b, c.toNat = b := ⟨_, rfl⟩
      have hb2 : b < 256 := by rw [← hb]; exact c.toNat_lt
      have HB0 := Lib.hid (show byteAt (s.data.toList.drop i) 0 = b by rw [HD.out]; exact hb)
      by_cases h128 : b < 128
      · have e0 : decide ((b : Int) < 128) = true := decide_eq_true (by omega)
        have HN := Lib.hid (show validD (s.data.toList.drop (i + 1)) = ANS by rw [← HA.out, HD.out, validD_cons c _ (by omega)])
        go_wp2_with fail
        go_round
        case rel => exact ⟨i + 1, by omega, by go_num, HN.out⟩
        case measure => simp [Go.RowKit.intOf]; omega
      · have e0 : decide ((b : Int) < 128) = false := decide_eq_false (by omega)
        have HNE := Lib.hid (show s.data.toList.drop i ≠ [] by rw [HD.out]; exact List.cons_ne_nil _ _)
        have H128 := Lib.hid (show 128 ≤ byteAt (s.data.toList.drop i) 0 by rw [HB0.out]; omega)
        rcases (show b < 194 ∨ (194 ≤ b ∧ b < 224) ∨ (224 ≤ b ∧ b < 240) ∨ (240 ≤ b ∧ b < 245) ∨ 245 ≤ b by omega) with hr | hr | hr | hr | hr
        · have HF := Lib.hid (show ANS = false by rw [← HA.out, name_lead0 HNE.out H128.out (by rw [HB0.out]; unfold leadN; rw [if_pos (by omega)])])
          have g0 : decide ((194 : Int) ≤ (b : Int)) = false := decide_eq_false (by omega)
          have g1 : decide ((b : Int) < 224) = true := decide_eq_true (by omega)
          have g2 : decide ((224 : Int) ≤ (b : Int)) = false := decide_eq_false (by omega)
          have g3 : decide ((b : Int) < 240) = true := decide_eq_true (by omega)
          have g4 : decide ((240 : Int) ≤ (b : Int)) = false := decide_eq_false (by omega)
          have g5 : decide ((b : Int) < 245) = true := decide_eq_true (by omega)
          go_wp2_with fail
          go_ret
          exact ⟨by rw [HF.out]; rfl, rfl⟩
        · have HL := Lib.hid (show leadN (byteAt (s.data.toList.drop i) 0) = 1 by rw [HB0.out]; unfold leadN; rw [if_neg (by omega), if_pos (by omega)])
          have HC1 := Lib.hid (show ((codeN (byteAt (s.data.toList.drop i)) 1 : Nat) : Int) = (b : Int) % 32 by show ((leadC (byteAt (s.data.toList.drop i) 0) : Nat) : Int) = _; rw [HB0.out]; unfold leadC; rw [if_pos (by omega)]; omega)
          have g0 : decide ((194 : Int) ≤ (b : Int)) = true := decide_eq_true (by omega)
          have g1 : decide ((b : Int) < 224) = true := decide_eq_true (by omega)
          have g2 : decide ((224 : Int) ≤ (b : Int)) = false := decide_eq_false (by omega)
          have g3 : decide ((b : Int) < 240) = true := decide_eq_true (by omega)
          have g4 : decide ((240 : Int) ≤ (b : Int)) = false := decide_eq_false (by omega)
          have g5 : decide ((b : Int) < 245) = true := decide_eq_true (by omega)
          go_wp2_with fail
          go_loop [5, 7] (fun cd k => ∃ q : Nat, 1 ≤ q ∧ q ≤ 1 + 1 ∧ k = .int .i64 q ∧ cd = .int .i64 (codeN (byteAt (s.data.toList.drop i)) q : Nat) ∧ ∀ j, 1 ≤ j → j < q → byteAt (s.data.toList.drop i) j / 64 = 2) (fun _ k => 10 - (Go.RowKit.intOf k).toNat)
          case atStart => exact ⟨1, by omega, by omega, rfl, by rw [HC1.out], fun j h1 h2 => by omega⟩
          case round =>
            obtain ⟨q, hq1, hq2, rfl, rfl, hg⟩ := hrel
            have HG := Lib.hid hg
            clear hg
            obtain ⟨C, hC⟩ : ∃ C, codeN (byteAt (s.data.toList.drop i)) q = C := ⟨_, rfl⟩
            have hCb : C < 8388608 := by rw [← hC]; exact codeN_b _ q hq1 (by omega)
            have hCi : (C : Int) < 8388608 := by omega
            rw [hC]
            have HC := Lib.hid hC
            clear hC hCb
            by_cases hqN : q ≤ 1
            · have k1 : decide ((q : Int) ≤ 1) = true := decide_eq_true (by omega)
              obtain ⟨n, hn⟩ : ∃ n, i + q = n := ⟨_, rfl⟩
              have hni : (i : Int) + (q : Int) = (n : Int) := by omega
              have HN := Lib.hid hn
              clear hn
              by_cases hin : n < s.size
              · have k2 : decide ((s.size : Int) ≤ (n : Int)) = false := decide_eq_false (by omega)
                have k2' : decide (s.size ≤ n) = false := decide_eq_false (by omega)
                obtain ⟨x, hx⟩ : ∃ x, s[n]'hin = x := ⟨_, rfl⟩
                have HX := Lib.hid (show byteAt (s.data.toList.drop i) q = x.toNat by rw [drop_at, HN.out, byte_get s _ hin, hx])
                obtain ⟨y, hy⟩ : ∃ y, x.toNat = y := ⟨_, rfl⟩
                have hyb : y < 256 := by rw [← hy]; exact x.toNat_lt
                rw [hy] at HX
                by_cases h64 : y / 64 = 2
                · have e2 : ((y : Int) / 64 == 2) = true := by rw [beq_iff_eq]; omega
                  have e2' : ((y : Int) / 64 != 2) = false := by rw [bne, e2]; rfl
                  have z1 : IntKind.u8.wrap ((y : Int) / 64) = (y : Int) / 64 := by simp [IntKind.wrap, IntKind.bits, IntKind.signed]; omega
                  go_wp2_with fail
                  go_round
                  case rel => exact ⟨q + 1, by omega, by omega, by go_num, congrArg (Value.int .i64) (by rw [codeN_succ _ q hq1, HC.out, HX.out]; omega), fun j h1 h2 => by
                    rcases (show j < q ∨ j = q by omega) with h3 | rfl
                    · exact HG.out j h1 h3
                    · rw [HX.out]; exact h64⟩
                  case measure => simp [Go.RowKit.intOf]; omega
                · have e2 : ((y : Int) / 64 == 2) = false := by rw [beq_eq_false_iff_ne]; omega
                  have e2' : ((y : Int) / 64 != 2) = true := by rw [bne, e2]; rfl
                  have z1 : IntKind.u8.wrap ((y : Int) / 64) = (y : Int) / 64 := by simp [IntKind.wrap, IntKind.bits, IntKind.signed]; omega
                  have HF := Lib.hid (show ANS = false by rw [← HA.out, name_bad HNE.out H128.out HL.out (by omega) hq1 hqN (by rw [HX.out]; exact h64)])
                  go_wp2_with fail
                  go_ret
                  exact ⟨by rw [HF.out]; rfl, rfl⟩
              · have k2 : decide ((s.size : Int) ≤ (n : Int)) = true := decide_eq_true (by omega)
                have k2' : decide (s.size ≤ n) = true := decide_eq_true (by omega)
                have HF := Lib.hid (show ANS = false by rw [← HA.out, name_bad HNE.out H128.out HL.out (by omega) hq1 hqN (by rw [drop_at, HN.out, byte_out s n (by omega)]; decide)])
                go_wp2_with fail
                go_ret
                exact ⟨by rw [HF.out]; rfl, rfl⟩
            · have hq3 : q = 1 + 1 := by omega
              have k1 : decide ((q : Int) ≤ 1) = false := decide_eq_false (by omega)
              have HAL := Lib.hid (show ∀ j, 1 ≤ j → j ≤ 1 → byteAt (s.data.toList.drop i) j / 64 = 2 from fun j h1 h2 => HG.out j h1 (by omega))
              have HC2 := Lib.hid (show codeN (byteAt (s.data.toList.drop i)) (1 + 1) = C by rw [← hq3]; exact HC.out)
              have hfit : i + 1 < s.size := by
                have h9 := byte_in (HAL.out 1 (by omega) (by omega))
                rw [List.length_drop, Array.length_toList] at h9
                change 1 < s.size - i at h9
                omega
              have HGO := Lib.hid (show ¬ badN 1 C → validD (s.data.toList.drop (i + (1 + 1))) = ANS from fun hb9 => by
                rw [← HA.out, name_go HNE.out H128.out HL.out (by omega) HAL.out (by rw [HC2.out]; exact hb9), List.drop_drop])
              have HBD := Lib.hid (show badN 1 C → ANS = false from fun hb9 => by rw [← HA.out, name_badc HNE.out H128.out HL.out (by omega) (by rw [HC2.out]; exact hb9)])
              clear hq3
              go_wp2_with fail
              go_round
              case rel => exact ⟨i + (1 + 1), by omega, congrArg (Value.int .i64) (by omega), HGO.out (by unfold badN; omega)⟩
              case measure => simp [Go.RowKit.intOf]; omega
        · have HL := Lib.hid (show leadN (byteAt (s.data.toList.drop i) 0) = 2 by rw [HB0.out]; unfold leadN; rw [if_neg (by omega), if_neg (by omega), if_pos (by omega)])
          have HC1 := Lib.hid (show ((codeN (byteAt (s.data.toList.drop i)) 1 : Nat) : Int) = (b : Int) % 16 by show ((leadC (byteAt (s.data.toList.drop i) 0) : Nat) : Int) = _; rw [HB0.out]; unfold leadC; rw [if_neg (by omega), if_pos (by omega)]; omega)
          have g0 : decide ((194 : Int) ≤ (b : Int)) = true := decide_eq_true (by omega)
          have g1 : decide ((b : Int) < 224) = false := decide_eq_false (by omega)
          have g2 : decide ((224 : Int) ≤ (b : Int)) = true := decide_eq_true (by omega)
          have g3 : decide ((b : Int) < 240) = true := decide_eq_true (by omega)
          have g4 : decide ((240 : Int) ≤ (b : Int)) = false := decide_eq_false (by omega)
          have g5 : decide ((b : Int) < 245) = true := decide_eq_true (by omega)
          go_wp2_with fail
          go_loop [5, 7] (fun cd k => ∃ q : Nat, 1 ≤ q ∧ q ≤ 2 + 1 ∧ k = .int .i64 q ∧ cd = .int .i64 (codeN (byteAt (s.data.toList.drop i)) q : Nat) ∧ ∀ j, 1 ≤ j → j < q → byteAt (s.data.toList.drop i) j / 64 = 2) (fun _ k => 10 - (Go.RowKit.intOf k).toNat)
          case atStart => exact ⟨1, by omega, by omega, rfl, by rw [HC1.out], fun j h1 h2 => by omega⟩
          case round =>
            obtain ⟨q, hq1, hq2, rfl, rfl, hg⟩ := hrel
            have HG := Lib.hid hg
            clear hg
            obtain ⟨C, hC⟩ : ∃ C, codeN (byteAt (s.data.toList.drop i)) q = C := ⟨_, rfl⟩
            have hCb : C < 8388608 := by rw [← hC]; exact codeN_b _ q hq1 (by omega)
            have hCi : (C : Int) < 8388608 := by omega
            rw [hC]
            have HC := Lib.hid hC
            clear hC hCb
            by_cases hqN : q ≤ 2
            · have k1 : decide ((q : Int) ≤ 2) = true := decide_eq_true (by omega)
              obtain ⟨n, hn⟩ : ∃ n, i + q = n := ⟨_, rfl⟩
              have hni : (i : Int) + (q : Int) = (n : Int) := by omega
              have HN := Lib.hid hn
              clear hn
              by_cases hin : n < s.size
              · have k2 : decide ((s.size : Int) ≤ (n : Int)) = false := decide_eq_false (by omega)
                have k2' : decide (s.size ≤ n) = false := decide_eq_false (by omega)
                obtain ⟨x, hx⟩ : ∃ x, s[n]'hin = x := ⟨_, rfl⟩
                have HX := Lib.hid (show byteAt (s.data.toList.drop i) q = x.toNat by rw [drop_at, HN.out, byte_get s _ hin, hx])
                obtain ⟨y, hy⟩ : ∃ y, x.toNat = y := ⟨_, rfl⟩
                have hyb : y < 256 := by rw [← hy]; exact x.toNat_lt
                rw [hy] at HX
                by_cases h64 : y / 64 = 2
                · have e2 : ((y : Int) / 64 == 2) = true := by rw [beq_iff_eq]; omega
                  have e2' : ((y : Int) / 64 != 2) = false := by rw [bne, e2]; rfl
                  have z1 : IntKind.u8.wrap ((y : Int) / 64) = (y : Int) / 64 := by simp [IntKind.wrap, IntKind.bits, IntKind.signed]; omega
                  go_wp2_with fail
                  go_round
                  case rel => exact ⟨q + 1, by omega, by omega, by go_num, congrArg (Value.int .i64) (by rw [codeN_succ _ q hq1, HC.out, HX.out]; omega), fun j h1 h2 => by
                    rcases (show j < q ∨ j = q by omega) with h3 | rfl
                    · exact HG.out j h1 h3
                    · rw [HX.out]; exact h64⟩
                  case measure => simp [Go.RowKit.intOf]; omega
                · have e2 : ((y : Int) / 64 == 2) = false := by rw [beq_eq_false_iff_ne]; omega
                  have e2' : ((y : Int) / 64 != 2) = true := by rw [bne, e2]; rfl
                  have z1 : IntKind.u8.wrap ((y : Int) / 64) = (y : Int) / 64 := by simp [IntKind.wrap, IntKind.bits, IntKind.signed]; omega
                  have HF := Lib.hid (show ANS = false by rw [← HA.out, name_bad HNE.out H128.out HL.out (by omega) hq1 hqN (by rw [HX.out]; exact h64)])
                  go_wp2_with fail
                  go_ret
                  exact ⟨by rw [HF.out]; rfl, rfl⟩
              · have k2 : decide ((s.size : Int) ≤ (n : Int)) = true := decide_eq_true (by omega)
                have k2' : decide (s.size ≤ n) = true := decide_eq_true (by omega)
                have HF := Lib.hid (show ANS = false by rw [← HA.out, name_bad HNE.out H128.out HL.out (by omega) hq1 hqN (by rw [drop_at, HN.out, byte_out s n (by omega)]; decide)])
                go_wp2_with fail
                go_ret
                exact ⟨by rw [HF.out]; rfl, rfl⟩
            · have hq3 : q = 2 + 1 := by omega
              have k1 : decide ((q : Int) ≤ 2) = false := decide_eq_false (by omega)
              have HAL := Lib.hid (show ∀ j, 1 ≤ j → j ≤ 2 → byteAt (s.data.toList.drop i) j / 64 = 2 from fun j h1 h2 => HG.out j h1 (by omega))
              have HC2 := Lib.hid (show codeN (byteAt (s.data.toList.drop i)) (2 + 1) = C by rw [← hq3]; exact HC.out)
              have hfit : i + 2 < s.size := by
                have h9 := byte_in (HAL.out 2 (by omega) (by omega))
                rw [List.length_drop, Array.length_toList] at h9
                change 2 < s.size - i at h9
                omega
              have HGO := Lib.hid (show ¬ badN 2 C → validD (s.data.toList.drop (i + (2 + 1))) = ANS from fun hb9 => by
                rw [← HA.out, name_go HNE.out H128.out HL.out (by omega) HAL.out (by rw [HC2.out]; exact hb9), List.drop_drop])
              have HBD := Lib.hid (show badN 2 C → ANS = false from fun hb9 => by rw [← HA.out, name_badc HNE.out H128.out HL.out (by omega) (by rw [HC2.out]; exact hb9)])
              clear hq3
              by_cases m1 : C < 2048
              · have tm1 : decide ((C : Int) < 2048) = true := decide_eq_true (by omega)
                have HF := Lib.hid (HBD.out (by unfold badN; omega))
                go_wp2_with fail
                go_ret
                exact ⟨by rw [HF.out]; rfl, rfl⟩
              · have tm1 : decide ((C : Int) < 2048) = false := decide_eq_false (by omega)
                by_cases m2 : 55296 ≤ C
                · have tm2 : decide (55296 ≤ (C : Int)) = true := decide_eq_true (by omega)
                  by_cases m3 : C < 57344
                  · have tm3 : decide ((C : Int) < 57344) = true := decide_eq_true (by omega)
                    have HF := Lib.hid (HBD.out (by unfold badN; omega))
                    go_wp2_with fail
                    go_ret
                    exact ⟨by rw [HF.out]; rfl, rfl⟩
                  · have tm3 : decide ((C : Int) < 57344) = false := decide_eq_false (by omega)
                    go_wp2_with fail
                    go_round
                    case rel => exact ⟨i + (2 + 1), by omega, congrArg (Value.int .i64) (by omega), HGO.out (by unfold badN; omega)⟩
                    case measure => simp [Go.RowKit.intOf]; omega
                · have tm2 : decide (55296 ≤ (C : Int)) = false := decide_eq_false (by omega)
                  go_wp2_with fail
                  go_round
                  case rel => exact ⟨i + (2 + 1), by omega, congrArg (Value.int .i64) (by omega), HGO.out (by unfold badN; omega)⟩
                  case measure => simp [Go.RowKit.intOf]; omega
        · have HL := Lib.hid (show leadN (byteAt (s.data.toList.drop i) 0) = 3 by rw [HB0.out]; unfold leadN; rw [if_neg (by omega), if_neg (by omega), if_neg (by omega), if_pos (by omega)])
          have HC1 := Lib.hid (show ((codeN (byteAt (s.data.toList.drop i)) 1 : Nat) : Int) = (b : Int) % 8 by show ((leadC (byteAt (s.data.toList.drop i) 0) : Nat) : Int) = _; rw [HB0.out]; unfold leadC; rw [if_neg (by omega), if_neg (by omega)]; omega)
          have g0 : decide ((194 : Int) ≤ (b : Int)) = true := decide_eq_true (by omega)
          have g1 : decide ((b : Int) < 224) = false := decide_eq_false (by omega)
          have g2 : decide ((224 : Int) ≤ (b : Int)) = true := decide_eq_true (by omega)
          have g3 : decide ((b : Int) < 240) = false := decide_eq_false (by omega)
          have g4 : decide ((240 : Int) ≤ (b : Int)) = true := decide_eq_true (by omega)
          have g5 : decide ((b : Int) < 245) = true := decide_eq_true (by omega)
          go_wp2_with fail
          go_loop [5, 7] (fun cd k => ∃ q : Nat, 1 ≤ q ∧ q ≤ 3 + 1 ∧ k = .int .i64 q ∧ cd = .int .i64 (codeN (byteAt (s.data.toList.drop i)) q : Nat) ∧ ∀ j, 1 ≤ j → j < q → byteAt (s.data.toList.drop i) j / 64 = 2) (fun _ k => 10 - (Go.RowKit.intOf k).toNat)
          case atStart => exact ⟨1, by omega, by omega, rfl, by rw [HC1.out], fun j h1 h2 => by omega⟩
          case round =>
            obtain ⟨q, hq1, hq2, rfl, rfl, hg⟩ := hrel
            have HG := Lib.hid hg
            clear hg
            obtain ⟨C, hC⟩ : ∃ C, codeN (byteAt (s.data.toList.drop i)) q = C := ⟨_, rfl⟩
            have hCb : C < 8388608 := by rw [← hC]; exact codeN_b _ q hq1 (by omega)
            have hCi : (C : Int) < 8388608 := by omega
            rw [hC]
            have HC := Lib.hid hC
            clear hC hCb
            by_cases hqN : q ≤ 3
            · have k1 : decide ((q : Int) ≤ 3) = true := decide_eq_true (by omega)
              obtain ⟨n, hn⟩ : ∃ n, i + q = n := ⟨_, rfl⟩
              have hni : (i : Int) + (q : Int) = (n : Int) := by omega
              have HN := Lib.hid hn
              clear hn
              by_cases hin : n < s.size
              · have k2 : decide ((s.size : Int) ≤ (n : Int)) = false := decide_eq_false (by omega)
                have k2' : decide (s.size ≤ n) = false := decide_eq_false (by omega)
                obtain ⟨x, hx⟩ : ∃ x, s[n]'hin = x := ⟨_, rfl⟩
                have HX := Lib.hid (show byteAt (s.data.toList.drop i) q = x.toNat by rw [drop_at, HN.out, byte_get s _ hin, hx])
                obtain ⟨y, hy⟩ : ∃ y, x.toNat = y := ⟨_, rfl⟩
                have hyb : y < 256 := by rw [← hy]; exact x.toNat_lt
                rw [hy] at HX
                by_cases h64 : y / 64 = 2
                · have e2 : ((y : Int) / 64 == 2) = true := by rw [beq_iff_eq]; omega
                  have e2' : ((y : Int) / 64 != 2) = false := by rw [bne, e2]; rfl
                  have z1 : IntKind.u8.wrap ((y : Int) / 64) = (y : Int) / 64 := by simp [IntKind.wrap, IntKind.bits, IntKind.signed]; omega
                  go_wp2_with fail
                  go_round
                  case rel => exact ⟨q + 1, by omega, by omega, by go_num, congrArg (Value.int .i64) (by rw [codeN_succ _ q hq1, HC.out, HX.out]; omega), fun j h1 h2 => by
                    rcases (show j < q ∨ j = q by omega) with h3 | rfl
                    · exact HG.out j h1 h3
                    · rw [HX.out]; exact h64⟩
                  case measure => simp [Go.RowKit.intOf]; omega
                · have e2 : ((y : Int) / 64 == 2) = false := by rw [beq_eq_false_iff_ne]; omega
                  have e2' : ((y : Int) / 64 != 2) = true := by rw [bne, e2]; rfl
                  have z1 : IntKind.u8.wrap ((y : Int) / 64) = (y : Int) / 64 := by simp [IntKind.wrap, IntKind.bits, IntKind.signed]; omega
                  have HF := Lib.hid (show ANS = false by rw [← HA.out, name_bad HNE.out H128.out HL.out (by omega) hq1 hqN (by rw [HX.out]; exact h64)])
                  go_wp2_with fail
                  go_ret
                  exact ⟨by rw [HF.out]; rfl, rfl⟩
              · have k2 : decide ((s.size : Int) ≤ (n : Int)) = true := decide_eq_true (by omega)
                have k2' : decide (s.size ≤ n) = true := decide_eq_true (by omega)
                have HF := Lib.hid (show ANS = false by rw [← HA.out, name_bad HNE.out H128.out HL.out (by omega) hq1 hqN (by rw [drop_at, HN.out, byte_out s n (by omega)]; decide)])
                go_wp2_with fail
                go_ret
                exact ⟨by rw [HF.out]; rfl, rfl⟩
            · have hq3 : q = 3 + 1 := by omega
              have k1 : decide ((q : Int) ≤ 3) = false := decide_eq_false (by omega)
              have HAL := Lib.hid (show ∀ j, 1 ≤ j → j ≤ 3 → byteAt (s.data.toList.drop i) j / 64 = 2 from fun j h1 h2 => HG.out j h1 (by omega))
              have HC2 := Lib.hid (show codeN (byteAt (s.data.toList.drop i)) (3 + 1) = C by rw [← hq3]; exact HC.out)
              have hfit : i + 3 < s.size := by
                have h9 := byte_in (HAL.out 3 (by omega) (by omega))
                rw [List.length_drop, Array.length_toList] at h9
                change 3 < s.size - i at h9
                omega
              have HGO := Lib.hid (show ¬ badN 3 C → validD (s.data.toList.drop (i + (3 + 1))) = ANS from fun hb9 => by
                rw [← HA.out, name_go HNE.out H128.out HL.out (by omega) HAL.out (by rw [HC2.out]; exact hb9), List.drop_drop])
              have HBD := Lib.hid (show badN 3 C → ANS = false from fun hb9 => by rw [← HA.out, name_badc HNE.out H128.out HL.out (by omega) (by rw [HC2.out]; exact hb9)])
              clear hq3
              by_cases m1 : C < 65536
              · have tm1 : decide ((C : Int) < 65536) = true := decide_eq_true (by omega)
                have HF := Lib.hid (HBD.out (by unfold badN; omega))
                go_wp2_with fail
                go_ret
                exact ⟨by rw [HF.out]; rfl, rfl⟩
              · have tm1 : decide ((C : Int) < 65536) = false := decide_eq_false (by omega)
                by_cases m2 : 1114111 < C
                · have tm2 : decide (1114111 < (C : Int)) = true := decide_eq_true (by omega)
                  have HF := Lib.hid (HBD.out (by unfold badN; omega))
                  go_wp2_with fail
                  go_ret
                  exact ⟨by rw [HF.out]; rfl, rfl⟩
                · have tm2 : decide (1114111 < (C : Int)) = false := decide_eq_false (by omega)
                  go_wp2_with fail
                  go_round
                  case rel => exact ⟨i + (3 + 1), by omega, congrArg (Value.int .i64) (by omega), HGO.out (by unfold badN; omega)⟩
                  case measure => simp [Go.RowKit.intOf]; omega
        · have HF := Lib.hid (show ANS = false by rw [← HA.out, name_lead0 HNE.out H128.out (by rw [HB0.out]; unfold leadN; rw [if_neg (by omega), if_neg (by omega), if_neg (by omega), if_neg (by omega)])])
          have g0 : decide ((194 : Int) ≤ (b : Int)) = true := decide_eq_true (by omega)
          have g1 : decide ((b : Int) < 224) = false := decide_eq_false (by omega)
          have g2 : decide ((224 : Int) ≤ (b : Int)) = true := decide_eq_true (by omega)
          have g3 : decide ((b : Int) < 240) = false := decide_eq_false (by omega)
          have g4 : decide ((240 : Int) ≤ (b : Int)) = true := decide_eq_true (by omega)
          have g5 : decide ((b : Int) < 245) = false := decide_eq_false (by omega)
          go_wp2_with fail
          go_ret
          exact ⟨by rw [HF.out]; rfl, rfl⟩
    · obtain rfl : i = s.size := by omega
      have d1 : decide ((s.size : Int) < (s.size : Int)) = false := decide_eq_false (by omega)
      have d1' : decide (s.size < s.size) = false := decide_eq_false hlt
      have HF := Lib.hid (show ANS = true by rw [← HA.out, List.drop_of_length_le (by rw [Array.length_toList]; exact Nat.le_refl _)]; rfl)
      go_wp2_with fail
      go_ret
      exact ⟨by rw [HF.out]; rfl, rfl⟩
end Go.Proofs.YtkemaonhchklmaaGreatDoor.Mod

/- ModRefC: What the reference's function of chapter 4 answers. No condition but that the code has room. -/
namespace Go.Proofs.YtkemaonhchklmaaGreatDoor.Mod
open Go.RowKit Go.Maps Go.Proofs.YtkemaonhchklmaaGreatDoor.Op
set_option linter.unusedVariables false
set_option linter.unusedSimpArgs false
theorem boxm_later {w w2 : World} (c : Below w.heap.size w w2) {n : Nat} {q : Obj} (h : w.heap[n]? = some q) : w2.heap[n]? = some q := (c.block n (Array.getElem?_eq_some_iff.1 h).1).trans h
theorem boxm_at {w : World} {b : Nat} {cs : Array Value} {t : TypeId} (h : w.heap[b]? = some (.cells cs t (0, 0))) (j : Nat) (v : Value) (hv : cs[j]? = some v) : w.cell? ⟨b, j, none⟩ = some v := by
  rw [cell_of_row w b j _ _ _ h, hv]
def LabN (l : List InsL) : Prop := ∀ x ∈ l, x.labels.length ≤ 9223372036854775807
set_option maxRecDepth 100000 in
set_option maxHeartbeats 4000000 in
theorem rfunc_any (ty : Int) (ls : ByteArray) (cv : Value) (code : List InsL) (w : World) (hc : CodeAt w cv code) (hlab : LabN code) (hs : ls.size ≤ 9223372036854775807) (hroom : code.length * 48 ≤ 140737488355328) (ANS : Bool) (hA : rightFunc ⟨ty, ls, code⟩ = ANS) :
    Calls Tryz.prog 37 #[.agg #[.int .i64 ty, .string ls, cv]] w fun e w' => e = .returned (.bool ANS) ∧ Below w.heap.size w w' := by
  have HANS := Lib.hid hA
  clear hA
  have hcode := hc
  obtain ⟨la, cp, rfl, hle, hx⟩ := hc.form
  have B0 := Lib.hid (show Below w.heap.size w (w.alloc (.cells #[.int .i64 ty, .string ls, .slice la code.length cp] 33)) from (Below.refl _ _).alloc (Nat.le_refl _) _)
  have HX := Lib.hid hx
  have HLB := Lib.hid hlab
  have HCD := Lib.hid hcode
  have hbox := heap_alloc_new w (.cells #[.int .i64 ty, .string ls, .slice la code.length cp] 33)
  have HBX := Lib.hid hbox
  clear hx hlab hcode hbox
  go_enter Tryz.func37, Tryz.ntmps37
  go_wp2_with fail
  go_loopw [3] (fun i wr => ∃ k : Nat, k ≤ code.length ∧ i = .int .i64 k ∧ code.all rightIns = (code.drop k).all rightIns ∧ Below (w.alloc (.cells #[.int .i64 ty, .string ls, .slice la code.length cp] 33)).heap.size (w.alloc (.cells #[.int .i64 ty, .string ls, .slice la code.length cp] 33)) wr) (fun i _ => code.length + 1 - (Go.RowKit.intOf i).toNat)
  case atStart => exact ⟨0, Nat.zero_le _, rfl, rfl, Below.refl _ _⟩
  case round =>
    obtain ⟨k, hk, rfl, ha, hB⟩ := hrel
    have HA := Lib.hid ha
    have HB := Lib.hid hB
    have HB2 := Lib.hid (B0.out.trans (hB.mono B0.out.size))
    have hb9 := boxm_later hB HBX.out
    have q0 := boxm_at hb9 0 _ rfl
    have q1 := boxm_at hb9 1 _ rfl
    have q2 := boxm_at hb9 2 _ rfl
    clear ha hB hb9
    by_cases hlt : k < code.length
    · have hd : decide ((k : Int) < (code.length : Int)) = true := decide_eq_true (by omega)
      have hd2 : decide (k < code.length) = true := decide_eq_true hlt
      obtain ⟨⟨o, xa, xb, zs⟩, hm⟩ : ∃ m, code[k]? = some m := ⟨_, List.getElem?_eq_getElem hlt⟩
      obtain ⟨r, ⟨lv, rfl, hil, _⟩, _, b, off, rfl, hb, hcell⟩ := HX.out k _ hm
      have HIL := Lib.hid hil
      obtain ⟨lva, lvc, rfl⟩ := intsAt_form hil
      have c0 : wr.cell? ⟨b, off + k * 4, none⟩ = some (.int .i64 o) := cell_later HB2.out (hcell 0 _ rfl)
      have c1 : wr.cell? ⟨b, off + k * 4 + 1, none⟩ = some (.int .i64 xa) := cell_later HB2.out (hcell 1 _ rfl)
      have c2 : wr.cell? ⟨b, off + k * 4 + 2, none⟩ = some (.int .i64 xb) := cell_later HB2.out (hcell 2 _ rfl)
      have c3 : wr.cell? ⟨b, off + k * 4 + 3, none⟩ = some (.slice lva zs.length lvc) := cell_later HB2.out (hcell 3 _ rfl)
      have HZ := Lib.hid (show zs.length ≤ 9223372036854775807 from HLB.out _ (List.mem_of_getElem? hm))
      have HD := Lib.hid (show code.drop k = ⟨o, xa, xb, zs⟩ :: code.drop (k + 1) by
        rw [List.drop_eq_getElem_cons hlt]
        congr 1
        exact (List.getElem?_eq_some_iff.1 hm).2)
      clear hm hcell hil hb
      obtain ⟨B, hBv⟩ : ∃ B, rightB o xa xb zs = B := ⟨_, rfl⟩
      have HR := Lib.hid (show Calls Tryz.prog 43 #[.agg #[.int .i64 o, .int .i64 xa, .int .i64 xb, .slice lva zs.length lvc]] wr fun e w' => e = .returned (.bool B) ∧ Below wr.heap.size wr w' by
        have h9 := rright_any o xa xb (.slice lva zs.length lvc) zs wr HZ.out (intsAt_later HIL.out HB2.out)
        rw [hBv] at h9
        exact h9)
      have HBV := Lib.hid hBv
      clear hBv
      go_wp2_with fail
      refine HR.out.mono ?_
      rintro e w1 ⟨rfl, e1⟩
      have HB1 := Lib.hid (HB.out.trans (e1.mono HB.out.size))
      clear e1 q0 q1 q2 c0 c1 c2 c3
      cases B
      · have HF := Lib.hid (show ANS = false by
          rw [← HANS.out]
          show (wordB ty && (typesB ls 4096 && (structB [] (opsOf code) && code.all rightIns))) = false
          rw [HA.out, HD.out, List.all_cons, show rightIns ⟨o, xa, xb, zs⟩ = false from HBV.out]
          simp)
        go_wp2_with fail
        go_ret
        exact ⟨by rw [HF.out]; rfl, B0.out.trans (HB1.out.mono B0.out.size)⟩
      · have HN := Lib.hid (HA.out.trans (show _ = (code.drop (k + 1)).all rightIns by rw [HD.out, List.all_cons, show rightIns ⟨o, xa, xb, zs⟩ = true from HBV.out]; rfl))
        go_wp2_with fail
        go_roundw
        case rel => exact ⟨k + 1, by omega, by go_num, HN.out, HB1.out⟩
        case measure => simp [Go.RowKit.intOf]; omega
    · obtain rfl : k = code.length := by omega
      have hd : decide ((code.length : Int) < (code.length : Int)) = false := by simp
      have hd2 : decide (code.length < code.length) = false := by simp
      obtain ⟨T, hT⟩ : ∃ T, typesB ls 4096 = T := ⟨_, rfl⟩
      obtain ⟨U, hU⟩ : ∃ U, structB [] (opsOf code) = U := ⟨_, rfl⟩
      obtain ⟨V, hV⟩ : ∃ V, wordB ty = V := ⟨_, rfl⟩
      have HT := Lib.hid hT
      have HU := Lib.hid (show Calls Tryz.prog 9 #[.slice la code.length cp] wr fun e w' => e = .returned (.bool U) ∧ Below wr.heap.size wr w' by
        have h9 := rstruct_any code (.slice la code.length cp) wr (HCD.out.later lasts_ins HB2.out) hroom
        rw [hU] at h9
        exact h9)
      have HV := Lib.hid hV
      have HF := Lib.hid (show ANS = (V && (T && U)) by
        rw [← HANS.out]
        show (wordB ty && (typesB ls 4096 && (structB [] (opsOf code) && code.all rightIns))) = _
        rw [HA.out, List.drop_length, hT, hU, hV]
        simp)
      clear hT hU hV
      go_wp2_with fail
      refine (rmtypes_any ls 4096 _ hs T HT.out).mono ?_
      rintro e w1 ⟨rfl, rfl⟩
      go_wp2_with fail
      refine HU.out.mono ?_
      rintro e w1 ⟨rfl, e1⟩
      have u0 := cell_later e1 q0
      have HB1 := Lib.hid (HB.out.trans (e1.mono HB.out.size))
      clear e1 q0 q1 q2
      go_wp2_with fail
      refine (rmword_any ty _ V HV.out).mono ?_
      rintro e w2 ⟨rfl, rfl⟩
      cases V <;> cases T
      all_goals
        go_wp2_with fail
        go_ret
        exact ⟨by rw [HF.out]; rfl, B0.out.trans (HB1.out.mono B0.out.size)⟩
end Go.Proofs.YtkemaonhchklmaaGreatDoor.Mod
