/-
  DecPlain, DecRead, DecReadI in one.
-/
import Derived.Test.YteidhccnbfikcaaGreatDoorEnA
import Derived.Test.YteidhccnbfikcaaGreatDoorOpFloat
import Derived.Test.YteidhccnbfikcaaGreatDoorLbA
import Derived.Test.YteidhccnbfikcaaGreatDoorOpRg
/- DecPlain: What the reader of chapter 6 reads, as functions on plain states. Plain: no program in sight. -/
namespace Go.Proofs.YteidhccnbfikcaaGreatDoor.Dec
open Go.RowKit Go.Proofs.YteidhccnbfikcaaGreatDoor.Op Go.Proofs.YteidhccnbfikcaaGreatDoor.Mod Go.Proofs.YteidhccnbfikcaaGreatDoor.Leb Go.Proofs.YteidhccnbfikcaaGreatDoor.Enc
set_option linter.unusedVariables false
/-- where the reader is, its error -/
structure RS where
  pos : Nat
  e : Int
def failP (wrong : Bool) (c : Int) (r : RS) : RS := if wrong = true ∧ r.e = 0 then ⟨r.pos, c⟩ else r
def oneP (s : List UInt8) (r : RS) : Nat × RS :=
  if r.e = 0 then (if r.pos < s.length then ((s.getD r.pos 0).toNat, ⟨r.pos + 1, 0⟩) else (0, ⟨r.pos, 2⟩)) else (0, r)
def readP (f : List UInt8 → Int → Int × Int × Int) (s : List UInt8) (r : RS) : Int × RS :=
  if r.e = 0 then (if (f s r.pos).2.2 = 0 then ((f s r.pos).1, ⟨(f s r.pos).2.1.toNat, 0⟩) else (0, ⟨r.pos, 2⟩)) else (0, r)
def numberP : List UInt8 → RS → Int × RS := readP (ansU 32)
def s32P : List UInt8 → RS → Int × RS := readP (ansS 32)
def s64P : List UInt8 → RS → Int × RS := readP (ansS 64)
def textP (s : List UInt8) (r : RS) : List UInt8 × RS :=
  let n := numberP s r
  let r2 := failP (decide ((s.length : Int) - n.2.pos < n.1)) 2 n.2
  if r2.e = 0 then ((s.drop r2.pos).take n.1.toNat, ⟨r2.pos + n.1.toNat, 0⟩) else ([], r2)
def loopP {α : Type} (one : List UInt8 → RS → α × RS) (s : List UInt8) : Nat → List α → RS → List α × RS
  | 0, out, r => (out, r)
  | n + 1, out, r => if r.e = 0 then loopP one s n (out ++ [(one s r).1]) (one s r).2 else ([], r)
def listP {α : Type} (one : List UInt8 → RS → α × RS) (s : List UInt8) (r : RS) : List α × RS :=
  let n := numberP s r
  loopP one s n.1.toNat [] (failP (decide (4096 < n.1)) 5 n.2)
def instrP (s : List UInt8) (r : RS) : InsL × RS :=
  let b := oneP s r
  let r1 := failP (floatB b.1 || b.1 == 17) 3 b.2
  let r2 := failP (!(opInfo b.1).isSome) 2 r1
  if r2.e = 0 then
    let sh := shapeOf b.1
    if sh = 1 then
      let t := oneP s r2
      let q1 := failP (t.1 == 125 || t.1 == 124) 3 t.2
      let q2 := failP (t.1 != 64 && t.1 != 127 && t.1 != 126) 2 q1
      (⟨b.1, t.1, 0, []⟩, q2)
    else if sh = 2 ∨ sh = 4 then (let n := numberP s r2; (⟨b.1, n.1, 0, []⟩, n.2))
    else if sh = 3 then (let l := listP numberP s r2; let n := numberP s l.2; (⟨b.1, n.1, 0, l.1⟩, n.2))
    else if sh = 5 then (let n := numberP s r2; let k := numberP s n.2; (⟨b.1, n.1, k.1, []⟩, k.2))
    else if sh = 6 then (let t := oneP s r2; (⟨b.1, 0, 0, []⟩, failP (t.1 != 0) 2 t.2))
    else if sh = 7 then (let n := if b.1 = 66 then s64P s r2 else s32P s r2; (⟨b.1, n.1, 0, []⟩, n.2))
    else (⟨b.1, 0, 0, []⟩, r2)
  else (⟨0, 0, 0, []⟩, r2)
def zeroX : InsL := ⟨0, 0, 0, []⟩
/-- Instr: the instruction, the place behind, the error -/
def decI (s : List UInt8) (at_ : Int) : InsL × Int × Int :=
  if at_ < 0 ∨ (s.length : Int) < at_ then (zeroX, 0, 1)
  else
    let i := instrP s ⟨at_.toNat, 0⟩
    if i.2.e = 0 then (i.1, i.2.pos, 0) else (zeroX, 0, i.2.e)
end Go.Proofs.YteidhccnbfikcaaGreatDoor.Dec

/- DecRead: What is read of bytes that were written, piece by piece. Plain: no program in sight. -/
namespace Go.Proofs.YteidhccnbfikcaaGreatDoor.Dec
open Go.RowKit Go.Proofs.YteidhccnbfikcaaGreatDoor.Op Go.Proofs.YteidhccnbfikcaaGreatDoor.Mod Go.Proofs.YteidhccnbfikcaaGreatDoor.Leb Go.Proofs.YteidhccnbfikcaaGreatDoor.Enc
set_option linter.unusedVariables false
set_option linter.unusedSimpArgs false
/-- wherever the bytes stand, what is read of them is this, and the reader stands behind -/
def Reads {α : Type} (f : List UInt8 → RS → α × RS) (b : List UInt8) (x : α) : Prop := ∀ (l : List UInt8) (p : Nat) (more : List UInt8), p ≤ l.length → l.drop p = b ++ more → f l ⟨p, 0⟩ = (x, ⟨p + b.length, 0⟩)
theorem drop_le {l b more : List UInt8} {p : Nat} (hp : p ≤ l.length) (h : l.drop p = b ++ more) : p + b.length ≤ l.length := by
  have := congrArg List.length h
  rw [List.length_drop, List.length_append] at this
  omega
theorem drop_behind {l b more : List UInt8} {p : Nat} (h : l.drop p = b ++ more) : l.drop (p + b.length) = more := by
  rw [← List.drop_drop, h, List.drop_left]
theorem drop_split {l b more : List UInt8} {p : Nat} (h : l.drop p = b ++ more) : l = l.take p ++ (b ++ more) := by rw [← h, List.take_append_drop]
theorem take_pos {l : List UInt8} {p : Nat} (hp : p ≤ l.length) : (p : Int) = ((l.take p).length : Nat) := by rw [List.length_take]; omega
theorem reads_num {n : Int} (h0 : 0 ≤ n) (h1 : n < 4294967296) : Reads numberP (numL n) n := by
  intro l p more hp h
  have e := drop_split h
  have hn : numL n = putU 10 n.toNat := by unfold numL; rw [show (n % 18446744073709551616).toNat = n.toNat by omega]
  rw [hn] at e ⊢
  have h2 := ansU32_put n.toNat (l.take p) more (p : Int) (take_pos hp) (by omega)
  rw [← e, if_pos (by omega)] at h2
  unfold numberP readP
  rw [if_pos rfl, h2, if_pos rfl]
  simp only [Prod.mk.injEq, RS.mk.injEq, and_true]
  exact ⟨by omega, by omega⟩
theorem reads_s32 {n : Int} (h0 : -2147483648 ≤ n) (h1 : n < 2147483648) : Reads s32P (sgnL n) n := by
  intro l p more hp h
  have e := drop_split h
  unfold sgnL at e ⊢
  have h2 := ansS32_put n (l.take p) more (p : Int) (take_pos hp) (by omega)
  rw [← e, if_pos (by omega)] at h2
  unfold s32P readP
  rw [if_pos rfl, h2, if_pos rfl]
  simp only [Prod.mk.injEq, RS.mk.injEq, and_true, true_and]
  omega
theorem reads_s64 {n : Int} (h0 : -9223372036854775808 ≤ n) (h1 : n < 9223372036854775808) : Reads s64P (sgnL n) n := by
  intro l p more hp h
  have e := drop_split h
  unfold sgnL at e ⊢
  have h2 := ansS64_put n (l.take p) more (p : Int) (take_pos hp) (by omega)
  rw [← e] at h2
  unfold s64P readP
  rw [if_pos rfl, h2, if_pos rfl]
  simp only [Prod.mk.injEq, RS.mk.injEq, and_true, true_and]
  omega
theorem reads_one (b : UInt8) : Reads oneP [b] b.toNat := by
  intro l p more hp h
  have h1 := drop_le hp h
  unfold oneP
  rw [if_pos rfl, if_pos (by show p < l.length; simp at h1; omega)]
  have h2 : l.getD p 0 = b := by
    have := congrArg (fun m => m.getD 0 0) h
    simpa [List.getD_eq_getElem?_getD, List.getElem?_drop] using this
  rw [h2]
  rfl
theorem fail_ok (r : RS) (c : Int) : failP false c r = r := by unfold failP; rw [if_neg (by simp)]
theorem loop_reads {α : Type} {f : List UInt8 → RS → α × RS} {g : α → List UInt8} : ∀ (zs : List α) (out : List α) (l : List UInt8) (p : Nat) (more : List UInt8), (∀ x ∈ zs, Reads f (g x) x) → p ≤ l.length → l.drop p = zs.flatMap g ++ more → loopP f l zs.length out ⟨p, 0⟩ = (out ++ zs, ⟨p + (zs.flatMap g).length, 0⟩)
  | [], out, l, p, more, _, hp, h => by simp [loopP]
  | z :: zs, out, l, p, more, hz, hp, h => by
    rw [List.flatMap_cons, List.append_assoc] at h
    have h1 := hz z (by simp) l p _ hp h
    have h2 := loop_reads zs (out ++ [z]) l (p + (g z).length) more (fun x hx => hz x (by simp [hx])) (drop_le hp h) (drop_behind h)
    rw [List.length_cons, loopP, if_pos rfl, h1]
    dsimp only
    rw [h2, List.flatMap_cons, List.length_append, List.append_assoc, Nat.add_assoc]
    rfl
theorem reads_list {α : Type} {f : List UInt8 → RS → α × RS} {g : α → List UInt8} {zs : List α} (hz : ∀ x ∈ zs, Reads f (g x) x) (hl : zs.length ≤ 4096) : Reads (listP f) (listL g zs) zs := by
  intro l p more hp h
  unfold listL at h
  rw [List.append_assoc] at h
  have h1 := reads_num (n := zs.length) (by omega) (by omega) l p _ hp h
  unfold listP
  rw [h1]
  dsimp only
  rw [decide_eq_false (by omega), fail_ok, show ((zs.length : Int)).toNat = zs.length by omega, loop_reads zs [] l _ more hz (drop_le hp h) (drop_behind h)]
  unfold listL
  rw [List.length_append, Nat.add_assoc]
  rfl
theorem reads_text {t : List UInt8} (ht : t.length < 4294967296) : Reads textP (textL t) t := by
  intro l p more hp h
  unfold textL at h
  rw [List.append_assoc] at h
  have h1 := reads_num (n := t.length) (by omega) (by omega) l p _ hp h
  have h2 := drop_le hp h
  have h3 := drop_behind h
  have h4 := drop_le h2 h3
  unfold textP
  rw [h1]
  dsimp only
  rw [decide_eq_false (by omega), fail_ok, if_pos rfl, show ((t.length : Int)).toNat = t.length by omega, h3, List.take_left]
  unfold textL
  rw [List.length_append, Nat.add_assoc]
theorem byte_toNat {n : Int} (h0 : 0 ≤ n) (h1 : n < 256) : ((Enc.byteOf n).toNat : Int) = n := by
  unfold Enc.byteOf
  rw [show (n % 256).toNat = n.toNat by omega, toNat_ofNat (by omega)]
  omega
end Go.Proofs.YteidhccnbfikcaaGreatDoor.Dec

/- DecReadI: What is read of an instruction that was written. Plain: no program in sight. -/
namespace Go.Proofs.YteidhccnbfikcaaGreatDoor.Dec
open Go.RowKit Go.Proofs.YteidhccnbfikcaaGreatDoor.Op Go.Proofs.YteidhccnbfikcaaGreatDoor.Mod Go.Proofs.YteidhccnbfikcaaGreatDoor.Leb Go.Proofs.YteidhccnbfikcaaGreatDoor.Enc
set_option linter.unusedVariables false
set_option linter.unusedSimpArgs false
theorem codes_all : (tableL.all fun e => decide (0 ≤ e.1) && decide (e.1 < 256) && !floatB e.1 && e.1 != 17 && (e.2.shape != 7 || (e.1 == 65 || e.1 == 66))) = true := by kernel_rfl
theorem code_facts {op : Int} {i : Info} (hi : opInfo op = some i) : 0 ≤ op ∧ op < 256 ∧ floatB op = false ∧ op ≠ 17 ∧ (i.shape = 7 → op = 65 ∨ op = 66) := by
  have h := List.all_eq_true.1 codes_all _ (opInfo_mem hi)
  simp only [Bool.and_eq_true, decide_eq_true_eq, Bool.not_eq_true', bne_iff_ne, Bool.or_eq_true, beq_iff_eq] at h
  refine ⟨h.1.1.1.1, h.1.1.1.2, h.1.1.2, h.1.2, fun h7 => ?_⟩
  rcases h.2 with h2 | h2
  · exact absurd h7 h2
  · exact h2
theorem right_parts {op a b : Int} {zs : List Int} (h : rightB op a b zs = true) : ∃ i, opInfo op = some i ∧ (b = 0 ∨ i.shape = 5) ∧ (zs = [] ∨ i.shape = 3) ∧ zs.length ≤ 4096 ∧ allWords zs = true ∧ tailB i.shape op a b = true := by
  unfold rightB at h
  cases hi : opInfo op with
  | none => rw [hi] at h; cases h
  | some i =>
    rw [hi] at h
    change rightI i op a b zs = true at h
    unfold rightI at h
    refine ⟨i, rfl, ?_⟩
    split at h
    · cases h
    · rename_i h1
      split at h
      · cases h
      · rename_i h2
        split at h
        · cases h
        · rename_i h3
          split at h
          · rename_i h4
            exact ⟨by omega, by
              by_cases hz : zs = []
              · exact .inl hz
              · right
                by_cases h9 : i.shape = 3
                · exact h9
                · exact absurd ⟨hz, h9⟩ h2, by omega, h4, h⟩
          · cases h
theorem word_in {n : Int} (h : wordB n = true) : 0 ≤ n ∧ n < 4294967296 := by
  unfold wordB at h
  simpa using h
theorem shape_of {op : Int} {i : Info} (hi : opInfo op = some i) : shapeOf op = i.shape := by unfold shapeOf; rw [hi]; rfl
/-- what stands behind the code's byte -/
def restP (b : Nat) (s : List UInt8) (r2 : RS) : InsL × RS :=
    let sh := shapeOf b
    if sh = 1 then
      let t := oneP s r2
      let q1 := failP (t.1 == 125 || t.1 == 124) 3 t.2
      let q2 := failP (t.1 != 64 && t.1 != 127 && t.1 != 126) 2 q1
      (⟨b, t.1, 0, []⟩, q2)
    else if sh = 2 ∨ sh = 4 then (let n := numberP s r2; (⟨b, n.1, 0, []⟩, n.2))
    else if sh = 3 then (let l := listP numberP s r2; let n := numberP s l.2; (⟨b, n.1, 0, l.1⟩, n.2))
    else if sh = 5 then (let n := numberP s r2; let k := numberP s n.2; (⟨b, n.1, k.1, []⟩, k.2))
    else if sh = 6 then (let t := oneP s r2; (⟨b, 0, 0, []⟩, failP (t.1 != 0) 2 t.2))
    else if sh = 7 then (let n := if b = 66 then s64P s r2 else s32P s r2; (⟨b, n.1, 0, []⟩, n.2))
    else (⟨b, 0, 0, []⟩, r2)
theorem instr_rest (s : List UInt8) (r : RS) {b : Nat} {q : RS} (hb : oneP s r = (b, q)) (hq : q.e = 0) (hf : floatB (b : Int) = false) (h17 : b ≠ 17) (hk : (opInfo (b : Int)).isSome = true) : instrP s r = restP b s q := by
  unfold instrP restP
  rw [hb]
  dsimp only
  have h17b : (b == 17) = false := beq_eq_false_iff_ne.2 h17
  rw [hf, h17b, hk, Bool.or_false, fail_ok, Bool.not_true, fail_ok, if_pos hq]
theorem reads_ins {x : InsL} (hr : rightIns x = true) (ha : (Lit.int .i64 x.a).wf = true) : Reads instrP (insL x) x := by
  obtain ⟨op, a, b, zs⟩ := x
  intro l p more hp h
  change rightB op a b zs = true at hr
  obtain ⟨i, hi, hb, hz, hzl, hw, ht⟩ := right_parts hr
  obtain ⟨c0, c1, hf, h17, h7⟩ := code_facts hi
  have hsh := shape_of hi
  obtain ⟨s0, s1⟩ := shape_range hi
  obtain ⟨B, hB, hB2⟩ : ∃ B : Nat, op = (B : Int) ∧ B < 256 := ⟨op.toNat, by omega, by omega⟩
  subst hB
  have hbyte : (Enc.byteOf (B : Int)).toNat = B := by have := byte_toNat c0 c1; omega
  have e : insL ⟨(B : Int), a, b, zs⟩ = [Enc.byteOf (B : Int)] ++ bodyL i.shape a b zs := by unfold insL; dsimp only; rw [hsh]; rfl
  rw [e] at h ⊢
  rw [List.append_assoc] at h
  have h1 := reads_one (Enc.byteOf (B : Int)) l p _ hp h
  have hp2 := drop_le hp h
  have hd := drop_behind h
  rw [hbyte] at h1
  rw [instr_rest l ⟨p, 0⟩ h1 rfl hf (by omega) (by rw [hi]; rfl)]
  rw [List.length_append, ← Nat.add_assoc]
  generalize hq : p + [Enc.byteOf (B : Int)].length = q at *
  obtain ⟨nm, sh, ps, rs⟩ := i
  dsimp only at *
  unfold restP
  rw [hsh]
  dsimp only
  have hbz : sh ≠ 5 → b = 0 := fun h9 => hb.elim id (fun h => absurd h h9)
  have hzz : sh ≠ 3 → zs = [] := fun h9 => hz.elim id (fun h => absurd h h9)
  have ha2 : -9223372036854775808 ≤ a ∧ a < 9223372036854775808 := by
    simp [Lit.wf, show IntKind.i64.min = -9223372036854775808 by decide, show IntKind.i64.max = 9223372036854775807 by decide] at ha
    omega
  rcases (show sh = 0 ∨ sh = 1 ∨ sh = 2 ∨ sh = 3 ∨ sh = 4 ∨ sh = 5 ∨ sh = 6 ∨ sh = 7 by omega) with rfl | rfl | rfl | rfl | rfl | rfl | rfl | rfl
  · rw [tail_0] at ht
    have : a = 0 := by simpa using ht
    subst this
    rw [hbz (by decide), hzz (by decide)]
    simp [bodyL]
  · rw [tail_1] at ht
    have hA : a = 64 ∨ a = 127 ∨ a = 126 := by simpa [or_assoc] using ht
    obtain ⟨A, rfl⟩ : ∃ A : Nat, a = (A : Int) := ⟨a.toNat, by omega⟩
    have hbA : (Enc.byteOf (A : Int)).toNat = A := by have := byte_toNat (n := (A : Int)) (by omega) (by omega); omega
    have h2 := reads_one (Enc.byteOf (A : Int)) l q more hp2 (by simpa [bodyL] using hd)
    rw [hbA] at h2
    rw [if_pos rfl, h2]
    dsimp only
    have t1 : (A == 125 || A == 124) = false := by simp; omega
    have t2 : (A != 64 && A != 127 && A != 126) = false := by simp; omega
    rw [t1, fail_ok, t2, fail_ok, hbz (by decide), hzz (by decide)]
    simp [bodyL]
  · rw [tail_w _ _ _ _ (by decide) (by decide)] at ht
    simp only [Bool.and_eq_true] at ht
    have hA := word_in ht.1
    have h2 := reads_num hA.1 hA.2 l q more hp2 (by simpa [bodyL] using hd)
    rw [if_neg (by decide), if_pos (by decide), h2, hbz (by decide), hzz (by decide)]
    simp [bodyL]
  · rw [tail_w _ _ _ _ (by decide) (by decide)] at ht
    simp only [Bool.and_eq_true] at ht
    have hA := word_in ht.1
    have hd2 : l.drop q = listL numL zs ++ (numL a ++ more) := by simpa [bodyL] using hd
    have h2 := reads_list (f := numberP) (g := numL) (zs := zs) (fun z hz => by
      have := word_in (List.all_eq_true.1 hw z hz)
      exact reads_num this.1 this.2) hzl l q _ hp2 hd2
    have h3 := reads_num hA.1 hA.2 l _ more (drop_le hp2 hd2) (drop_behind hd2)
    rw [if_neg (by decide), if_neg (by decide), if_pos rfl, h2]
    dsimp only
    rw [h3, hbz (by decide)]
    simp [bodyL, Nat.add_assoc]
  · rw [tail_w _ _ _ _ (by decide) (by decide)] at ht
    simp only [Bool.and_eq_true] at ht
    have hA := word_in ht.1
    have h2 := reads_num hA.1 hA.2 l q more hp2 (by simpa [bodyL] using hd)
    rw [if_neg (by decide), if_pos (by decide), h2, hbz (by decide), hzz (by decide)]
    simp [bodyL]
  · rw [tail_w _ _ _ _ (by decide) (by decide)] at ht
    simp only [Bool.and_eq_true] at ht
    have hA := word_in ht.1
    have hB3 := word_in ht.2
    have hd2 : l.drop q = numL a ++ (numL b ++ more) := by simpa [bodyL] using hd
    have h2 := reads_num hA.1 hA.2 l q _ hp2 hd2
    have h3 := reads_num hB3.1 hB3.2 l _ more (drop_le hp2 hd2) (drop_behind hd2)
    rw [if_neg (by decide), if_neg (by decide), if_neg (by decide), if_pos rfl, h2]
    dsimp only
    rw [h3, hzz (by decide)]
    simp [bodyL, Nat.add_assoc]
  · rw [tail_6] at ht
    have : a = 0 := by simpa using ht
    subst this
    have h2 := reads_one 0 l q more hp2 (by simpa [bodyL] using hd)
    rw [if_neg (by decide), if_neg (by decide), if_neg (by decide), if_neg (by decide), if_pos rfl, h2]
    dsimp only
    rw [show ((0 : UInt8).toNat != 0) = false from rfl, fail_ok, hbz (by decide), hzz (by decide)]
    simp [bodyL]
  · rw [tail_7] at ht
    rw [if_neg (by decide), if_neg (by decide), if_neg (by decide), if_neg (by decide), if_neg (by decide), if_pos rfl]
    have hd2 : l.drop q = sgnL a ++ more := by simpa [bodyL] using hd
    by_cases h66 : B = 66
    · have h2 := reads_s64 ha2.1 ha2.2 l q more hp2 hd2
      rw [if_pos h66, h2, hbz (by decide), hzz (by decide)]
      simp [bodyL]
    · have hwr : a = wrap32 a := by
        have : ((B : Int) == 66) = false := beq_eq_false_iff_ne.2 (by omega)
        rw [this] at ht
        simpa using ht
      have h2 := reads_s32 (n := a) (by unfold wrap32 at hwr; omega) (by unfold wrap32 at hwr; omega) l q more hp2 hd2
      rw [if_neg h66, h2, hbz (by decide), hzz (by decide)]
      simp [bodyL]
end Go.Proofs.YteidhccnbfikcaaGreatDoor.Dec
