/-
  Texts are told by their length first: what two modules that differ in a thing have for bytes. Plain but for what is known of codes.
-/
import Derived.Test.YtofepnojhghnnaaGreatDoorEncMade
namespace Go.Proofs.YtofepnojhghnnaaGreatDoor.Enc
open Go.RowKit Go.Maps Go.Proofs.YtofepnojhghnnaaGreatDoor.Op Go.Proofs.YtofepnojhghnnaaGreatDoor.Mod Go.Proofs.YtofepnojhghnnaaGreatDoor.Leb Go.Proofs.YtofepnojhghnnaaGreatDoor.Bytes Go.Proofs.YtofepnojhghnnaaGreatDoor.Pg
set_option linter.unusedVariables false
theorem putU_mono : ∀ (k n m : Nat), n ≤ m → (putU k n).length ≤ (putU k m).length
  | 0, _, _, _ => Nat.le_refl _
  | k + 1, n, m, h => by
    simp only [putU]
    split
    · split
      · simp
      · simp
    · split
      · omega
      · simp only [List.length_cons]
        have := putU_mono k (n / 128) (m / 128) (Nat.div_le_div_right h)
        omega
theorem numL_nat {n : Nat} (h : n < 18446744073709551616) : numL (n : Int) = putU 10 n := by
  unfold numL
  congr 1
  omega
theorem numL_mono {n m : Nat} (h : n ≤ m) (hm : m < 18446744073709551616) : (numL (n : Int)).length ≤ (numL (m : Int)).length := by
  rw [numL_nat (by omega), numL_nat hm]
  exact putU_mono 10 n m h
theorem textL_lt {l r : List UInt8} (h : l.length < r.length) (hr : r.length < 18446744073709551616) : (textL l).length < (textL r).length := by
  unfold textL
  rw [List.length_append, List.length_append]
  have := numL_mono (Nat.le_of_lt h) hr
  omega
theorem textL_inj {l r : List UInt8} (h : textL l = textL r) (hl : l.length < 18446744073709551616) (hr : r.length < 18446744073709551616) : l = r := by
  have hlen : l.length = r.length := by
    rcases Nat.lt_trichotomy l.length r.length with h1 | h1 | h1
    · have := textL_lt h1 hr
      rw [h] at this
      omega
    · exact h1
    · have := textL_lt h1 hl
      rw [h] at this
      omega
  unfold textL at h
  rw [hlen] at h
  exact List.append_cancel_left h
theorem struct_nop : ∀ (st l : List Int) (k : Nat), k < l.length → structB st (l.take k ++ 1 :: l.drop k) = structB st l
  | st, o :: os, 0, _ => by
    show structB st (1 :: o :: os) = structB st (o :: os)
    conv => lhs; unfold structB
    rw [if_neg (by omega)]
    have : stepS st 1 = some st := by unfold stepS; simp
    rw [this]
  | st, o :: os, k + 1, h => by
    have hk : k < os.length := by simpa using h
    show structB st (o :: (os.take k ++ 1 :: os.drop k)) = structB st (o :: os)
    conv => lhs; unfold structB
    conv => rhs; unfold structB
    by_cases h1 : o = 11 ∧ st = []
    · rw [if_pos h1, if_pos h1]
      have a : os.isEmpty = false := by cases os with
        | nil => simp at hk
        | cons => rfl
      have b : (os.take k ++ 1 :: os.drop k).isEmpty = false := by simp
      rw [a, b]
    · rw [if_neg h1, if_neg h1]
      cases hs : stepS st o with
      | none => rfl
      | some s => exact struct_nop s os k hk
/-- a made module with another export's name, other data -/
def modN (c : List Ins) (nm : ByteArray) (dat : List DataP) : ModP := { modOf c with exports := [⟨nm, 0, 0⟩], data := dat }
def dat0 : List DataP := [⟨100, ⟨#[115, 111, 109, 101, 32, 98, 121, 116, 101, 115]⟩⟩]
theorem modN_self (c : List Ins) : modN c ⟨#[102]⟩ dat0 = modOf c := rfl
def preN : List UInt8 := magicL ++ sectL 1 1 (listL ftL [⟨⟨#[126, 127]⟩, ⟨#[126]⟩⟩]) ++ sectL 3 1 (listL (fun f => numL f.ty) [(⟨0, ⟨#[]⟩, []⟩ : FuncP)]) ++ sectL 5 1 (listL memL [⟨1, 2⟩]) ++ sectL 6 2 (listL globL [⟨127, true, 5⟩, ⟨126, true, -5⟩])
def nameSect (nm : ByteArray) : List UInt8 := 7 :: textL (numL 1 ++ (strL nm ++ [0] ++ numL 0))
def codeSect (c : List Ins) : List UInt8 := 10 :: textL (numL 1 ++ codB ((c.map toL).flatMap insL))
theorem modN_bytes (c : List Ins) (nm : ByteArray) (dat : List DataP) : modL (modN c nm dat) = preN ++ nameSect nm ++ codeSect c ++ sectL 11 dat.length (listL dataL dat) := by
  rw [modL_eq]
  have h8 : sectL 8 (if (modN c nm dat).start = -1 then 0 else 1) (numL (modN c nm dat).start) = [] := rfl
  rw [h8, List.append_nil]
  have h10 : sectL 10 (modN c nm dat).funcs.length (listL codeL (modN c nm dat).funcs) = codeSect c := by
    have e : listL codeL (modN c nm dat).funcs = numL 1 ++ codB ((c.map toL).flatMap insL) := by
      show numL ((1 : Nat) : Int) ++ [(⟨0, ⟨#[127, 126]⟩, c.map toL⟩ : FuncP)].flatMap codeL = _
      rw [List.flatMap_cons, List.flatMap_nil, List.append_nil]
      rfl
    rw [e]
    unfold sectL codeSect
    rw [if_neg (by simp [modN, modOf])]
  have h7 : sectL 7 (modN c nm dat).exports.length (listL expL (modN c nm dat).exports) = nameSect nm := by
    have e : listL expL (modN c nm dat).exports = numL 1 ++ (strL nm ++ [0] ++ numL 0) := by
      show numL ((1 : Nat) : Int) ++ [(⟨nm, 0, 0⟩ : ExpP)].flatMap expL = _
      rw [List.flatMap_cons, List.flatMap_nil, List.append_nil]
      rfl
    rw [e]
    unfold sectL nameSect
    rw [if_neg (by simp [modN])]
  rw [h10, h7]
  rfl
theorem strL_inj {s t : ByteArray} (h : strL s = strL t) (hs : s.size < 18446744073709551616) (ht : t.size < 18446744073709551616) : s = t := by
  have := textL_inj h hs ht
  rw [← bs_self s, this, bs_self]
theorem name_inj {c : List Ins} {s t : ByteArray} {dat : List DataP} (h : modL (modN c s dat) = modL (modN c t dat)) (hs : s.size < 1000000000000) (ht : t.size < 1000000000000) : s = t := by
  rw [modN_bytes, modN_bytes] at h
  have h1 := List.append_cancel_right (List.append_cancel_right h)
  have h2 := List.append_cancel_left h1
  unfold nameSect at h2
  have h3 := (List.cons.inj h2).2
  have len : ∀ x : ByteArray, x.size < 1000000000000 → (numL 1 ++ (strL x ++ [0] ++ numL 0)).length < 18446744073709551616 := fun x hx => by
    simp only [List.length_append]
    have a1 := num_len 1
    have a2 := num_len 0
    have a3 := str_len x
    have a4 : ([0] : List UInt8).length = 1 := rfl
    omega
  have h4 := List.append_cancel_left (textL_inj h3 (len s hs) (len t ht))
  have h5 := List.append_cancel_right (List.append_cancel_right h4)
  exact strL_inj h5 (by omega) (by omega)
theorem name_eq (c : List Ins) (nm : ByteArray) (hs : nm.size < 1000000000000) : modL (modN c nm dat0) = modL (modOf c) ↔ nm = ⟨#[102]⟩ := by
  constructor
  · intro h
    rw [← modN_self] at h
    exact name_inj h hs (by decide)
  · intro h
    rw [h, modN_self]
theorem data_less (c : List Ins) : (modL (modN c ⟨#[102]⟩ [])).length < (modL (modOf c)).length := by
  rw [← modN_self, modN_bytes, modN_bytes]
  simp only [List.length_append]
  have h1 : (sectL 11 ([] : List DataP).length (listL dataL [])).length = 0 := rfl
  have h2 : (sectL 11 dat0.length (listL dataL dat0)).length = 19 := by kernel_rfl
  omega
def nopIns (c : List Ins) (k : Nat) : List Ins := c.take k ++ [⟨1, 0, 0⟩] ++ c.drop k
theorem ins1 : insL ⟨1, 0, 0, []⟩ = [1] := by kernel_rfl
theorem nop_flat (c : List Ins) (k : Nat) : (((nopIns c k).map toL).flatMap insL).length = ((c.map toL).flatMap insL).length + 1 := by
  have h1 : (c.map toL).flatMap insL = ((c.take k).map toL).flatMap insL ++ ((c.drop k).map toL).flatMap insL := by
    conv => lhs; rw [← List.take_append_drop k c]
    rw [List.map_append, List.flatMap_append]
  have h2 : ([(⟨1, 0, 0⟩ : Ins)].map toL).flatMap insL = [1] := by
    rw [List.map_cons, List.map_nil, List.flatMap_cons, List.flatMap_nil, List.append_nil]
    exact ins1
  unfold nopIns
  rw [List.map_append, List.map_append, List.flatMap_append, List.flatMap_append, h2, h1]
  simp only [List.length_append, List.length_cons, List.length_nil]
  omega
theorem nop_more (c : List Ins) (k : Nat) (hl : ((c.map toL).flatMap insL).length ≤ 1000000) : (modL (modOf c)).length < (modL (modOf (nopIns c k))).length := by
  rw [modOf_bytes, modOf_bytes]
  simp only [List.length_append, List.length_cons]
  have h1 := nop_flat c k
  have h2 : (localsL [127, 126] ++ (c.map toL).flatMap insL).length < (localsL [127, 126] ++ ((nopIns c k).map toL).flatMap insL).length := by
    rw [List.length_append, List.length_append]
    omega
  have h3 : (localsL [127, 126] ++ ((nopIns c k).map toL).flatMap insL).length ≤ 1000010 := by
    rw [List.length_append, loc_len]
    omega
  have h4 := textL_lt h2 (by omega)
  have h5 : (numL 1 ++ codB ((c.map toL).flatMap insL)).length < (numL 1 ++ codB (((nopIns c k).map toL).flatMap insL)).length := by
    rw [List.length_append, List.length_append]
    unfold codB
    omega
  have h6 : (numL 1 ++ codB (((nopIns c k).map toL).flatMap insL)).length ≤ 1000100 := by
    rw [List.length_append]
    unfold codB
    have := text_le' (localsL [127, 126] ++ ((nopIns c k).map toL).flatMap insL)
    have h7 := num_len 1
    omega
  have h7 := textL_lt h5 (by omega)
  omega
theorem nop_right {c : List Ins} {k : Nat} (hk : k < c.length) (h1 : structB [] (c.map Ins.op) = true) (h2 : ∀ x ∈ c, okI x = true) : rightM (modOf (nopIns c k)) = true := by
  refine mod_right _ ?_ (fun x hx => ?_)
  · unfold nopIns
    rw [List.map_append, List.map_append, List.map_take, List.map_drop, List.append_assoc]
    exact (struct_nop [] (c.map Ins.op) k (by simpa using hk)).trans h1
  · unfold nopIns at hx
    rcases List.mem_append.1 hx with hx | hx
    · rcases List.mem_append.1 hx with hx | hx
      · exact h2 x (List.mem_of_mem_take hx)
      · rw [List.mem_singleton.1 hx]; kernel_rfl
    · exact h2 x (List.mem_of_mem_drop hx)
theorem nop_wf {c : List Ins} {k : Nat} (h : ∀ x ∈ c, InsWf x) : ∀ x ∈ nopIns c k, InsWf x := by
  intro x hx
  unfold nopIns at hx
  rcases List.mem_append.1 hx with hx | hx
  · rcases List.mem_append.1 hx with hx | hx
    · exact h x (List.mem_of_mem_take hx)
    · rw [List.mem_singleton.1 hx]; unfold InsWf; decide
  · exact h x (List.mem_of_mem_drop hx)
theorem nop_len (c : List Ins) {k : Nat} (hk : k ≤ c.length) : (nopIns c k).length = c.length + 1 := by
  unfold nopIns
  simp only [List.length_append, List.length_take, List.length_drop, List.length_cons, List.length_nil]
  omega
theorem right_modN (c : List Ins) (nm : ByteArray) (dat : List DataP) (h1 : structB [] (c.map Ins.op) = true) (h2 : ∀ x ∈ c, okI x = true) (hd : allB dat rightData = true) : rightM (modN c nm dat) = nameB nm := by
  have h3 := mod_right c h1 h2
  unfold rightM at h3
  simp only [Bool.and_eq_true] at h3
  obtain ⟨a0, a1, a2, a3, a4, _, _⟩ := h3
  have a5 : allB [(⟨nm, 0, 0⟩ : ExpP)] rightExp = nameB nm := by
    unfold allB
    simp [rightExp, wordB]
  unfold rightM modN
  dsimp only
  rw [a0, a1, a2, a3, a4, a5, hd]
  simp
theorem wok_modN {c : List Ins} {nm : ByteArray} {dat : List DataP} (h : ∀ x ∈ c, InsWf x) (hl : c.length ≤ 100000) (hn : nm.size ≤ 140737488355328) (hd : ∀ p ∈ dat, (Lit.int .i64 p.offset).wf = true ∧ p.bytes.size ≤ 140737488355328) : WOk (modN c nm dat) := by
  have h1 := wok_modOf h hl
  exact ⟨h1.types, h1.glob, fun p hp => by rw [List.mem_singleton.1 hp]; exact hn, hd, h1.ins, h1.loc, h1.lab, h1.cnt⟩
theorem modN_len {c : List Ins} {nm : ByteArray} {dat : List DataP} (h : ∀ x ∈ c, InsWf x) (hd : (sectL 11 dat.length (listL dataL dat)).length ≤ 19) : (modL (modN c nm dat)).length ≤ c.length * 21 + 300 + nm.size := by
  rw [modN_bytes]
  simp only [List.length_append]
  have h0 : preN.length = 40 := by kernel_rfl
  have h1 := flat_len h
  have h2 := text_le' (numL 1 ++ codB ((c.map toL).flatMap insL))
  have h3 : (codB ((c.map toL).flatMap insL)).length ≤ 5 + ((c.map toL).flatMap insL).length + 10 := by
    unfold codB
    have := text_le' (localsL [127, 126] ++ (c.map toL).flatMap insL)
    rw [List.length_append, loc_len] at this
    exact this
  have h4 := num_len 1
  rw [List.length_append] at h2
  have h5 : (nameSect nm).length ≤ nm.size + 60 := by
    unfold nameSect
    rw [List.length_cons]
    have a0 := text_le' (numL 1 ++ (strL nm ++ [0] ++ numL 0))
    simp only [List.length_append] at a0
    have a2 := num_len 0
    have a3 := str_len nm
    have a4 : ([0] : List UInt8).length = 1 := rfl
    omega
  have h6 : (codeSect c).length ≤ c.length * 21 + 60 := by
    unfold codeSect
    rw [List.length_cons]
    omega
  omega
end Go.Proofs.YtofepnojhghnnaaGreatDoor.Enc
