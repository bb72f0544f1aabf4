/-
  Programs that are made step by step (the statements of chapters 4 to 9 share them), as data. Plain: no program in sight.
-/
import Derived.WalkKit
namespace Go.Proofs.YtmbgemcddjailaaGreatDoor.Pg
open Go.RowKit
set_option linter.unusedVariables false
/-- an instruction without labels -/
structure Ins where
  op : Int
  a : Int
  b : Int
def Ins.cells (x : Ins) : List Value := [.int .i64 x.op, .int .i64 x.a, .int .i64 x.b, .slice none 0 0]
def codeV (l : List Ins) : List Value := l.flatMap Ins.cells
/-- a block that is open: its code, its result, how many stood on the stack -/
structure Opn where
  op : Int
  res : Nat
  height : Nat
def Opn.cells (x : Opn) : List Value := [.int .i64 x.op, .int .u8 (x.res : Int), .int .i64 (x.height : Int)]
def openV (l : List Opn) : List Value := l.flatMap Opn.cells
def stackV (l : List Nat) : List Value := l.map fun (c : Nat) => .int .u8 (c : Int)
structure St where
  code : List Ins
  stack : List Nat
  opens : List Opn
structure Step where
  kind : Nat
  a : Int
  b : Int
  op : Nat
def St.start : St := ⟨[], [], []⟩
def putP (s : St) (op a b : Int) : St := { s with code := s.code ++ [⟨op, a, b⟩] }
def pushP (s : St) (k : Nat) : St := { s with stack := s.stack ++ [k] }
def takeP (s : St) : St := { s with stack := s.stack.dropLast }
def topH (s : St) : Nat := (s.opens.getLast?.map Opn.height).getD 0
def hasP (s : St) : Nat := s.stack.length - topH s
def wantP (s : St) (kind : Nat) : St :=
  if hasP s = 0 then { s with code := s.code ++ [⟨192 - (kind : Int), 7, 0⟩], stack := s.stack ++ [kind] }
  else if s.stack.getLast? = some kind then s
  else { s with code := s.code ++ [⟨if kind = 127 then 167 else 173, 0, 0⟩], stack := s.stack.dropLast ++ [kind] }
def dropI (res : Nat) : List Ins :=
  if res = 64 then [⟨26, 0, 0⟩] else [⟨33, 129 - (res : Int), 0⟩, ⟨26, 0, 0⟩, ⟨32, 129 - (res : Int), 0⟩]
def manyP (b : Opn) : Nat := if b.res = 64 then 0 else 1
def readyP (s : St) (b : Opn) : St := if b.res = 64 then s else wantP s b.res
def levelP (s : St) (b : Opn) : St :=
  { readyP s b with code := (readyP s b).code ++ (List.replicate (hasP (readyP s b) - manyP b) (dropI b.res)).flatten, stack := (readyP s b).stack.take b.height }
def shutP (s : St) (b : Opn) : St :=
  let s1 := levelP s b
  let s2 : St := { s1 with code := s1.code ++ [⟨11, 0, 0⟩], opens := s1.opens.dropLast }
  if b.res = 64 then s2 else pushP s2 b.res
def opensP (s : St) (op : Int) (res : Nat) : St := { s with code := s.code ++ [⟨op, res, 0⟩], opens := s.opens ++ [⟨op, res, s.stack.length⟩] }
def jumpsP (s : St) (n : Nat) : St :=
  match s.opens.reverse[n % s.opens.length]? with
  | none => s
  | some b => if b.res ≠ 64 ∧ b.op ≠ 3 then s else takeP (putP (wantP s 127) 13 ((n % s.opens.length : Nat) : Int) 0)
def kindAt (n : Nat) : Nat := if n = 0 ∨ n = 3 then 126 else 127
def elseP (s : St) (b : Opn) : St :=
  let s1 := levelP s b
  { s1 with code := s1.code ++ [⟨5, 0, 0⟩], opens := s1.opens.dropLast ++ [{ b with op := 5 }] }
def doesP (s : St) (t : Step) : St :=
  let kind := 126 + t.op % 2
  let c := t.kind % 16
  if c ≤ 1 then pushP (putP s (192 - (kind : Int)) (if kind = 127 then wrap32 t.a else t.a) 0) kind
  else if c ≤ 3 then putP (putP (wantP s kind) 32 ((kind : Int) - 126) 0) ((if kind = 127 then 106 else 124) + ((t.op / 2 % 15 : Nat) : Int)) 0 0
  else if c = 4 then pushP (takeP (putP (wantP s kind) (if kind = 127 then 69 else 80) 0 0)) 127
  else if c = 5 then pushP (putP s 32 ((t.op % 4 : Nat) : Int) 0) (kindAt (t.op % 4))
  else if c = 6 then takeP (putP (wantP s (kindAt (t.op % 4))) 33 ((t.op % 4 : Nat) : Int) 0)
  else if c = 7 then putP (wantP s (kindAt (t.op % 4))) 34 ((t.op % 4 : Nat) : Int) 0
  else if c = 8 then takeP (putP (wantP (pushP (putP s 35 ((t.op % 2 : Nat) : Int) 0) (127 - t.op % 2)) 126) 36 1 0)
  else if c = 9 then putP (wantP s 127) 40 ((t.op % 3 : Nat) : Int) (t.b % 131072)
  else if c = 10 then takeP (putP (putP (wantP s 127) 32 0 0) (60 + ((t.op % 3 : Nat) : Int)) 0 (t.b % 131072))
  else if c = 11 then opensP s (2 + ((t.op % 2 : Nat) : Int)) (if t.op / 2 % 3 = 0 then 64 else 128 - t.op / 2 % 3)
  else if c = 12 then opensP (takeP (wantP s 127)) 4 64
  else if c = 13 then
    match s.opens.getLast? with
    | none => s
    | some b => if b.op = 4 ∧ t.op % 2 = 0 then elseP s b else shutP s b
  else if c = 14 then jumpsP s t.op
  else if t.op % 3 = 0 then pushP (putP s 63 0 0) 127
  else if t.op % 3 = 1 then putP s 1 0 0
  else putP (pushP (putP s 63 0 0) 127) 64 0 0
def runP (s : St) (l : List Step) : St := l.foldl doesP s
def shutAll : Nat → St → St
  | 0, s => s
  | n + 1, s => match s.opens.getLast? with
    | none => s
    | some b => shutAll n (shutP s b)
def lastP (s : St) : St := putP (levelP s ⟨0, 126, 0⟩) 11 0 0
def madeP (l : List Step) : St := let s := runP .start (l.take 60); lastP (shutAll s.opens.length s)
/-- within a level: so many values are gone -/
def stkS (s : St) (b : Opn) (j : Nat) : List Nat :=
  if b.res = 64 then (readyP s b).stack.take ((readyP s b).stack.length - j) else (readyP s b).stack.take ((readyP s b).stack.length - 1 - j) ++ [b.res]
def levelS (s : St) (b : Opn) (j : Nat) : St := { readyP s b with code := (readyP s b).code ++ (List.replicate j (dropI b.res)).flatten, stack := stkS s b j }
/-! what holds of each -/
def Heights : List Opn → Nat → Prop
  | [], _ => True
  | b :: r, n => b.height ≤ n ∧ Heights r b.height
theorem Heights.mono : ∀ {l : List Opn} {n m : Nat}, Heights l n → n ≤ m → Heights l m
  | [], _, _, _, _ => trivial
  | _ :: _, _, _, h, hm => ⟨Nat.le_trans h.1 hm, h.2⟩
structure Inv (s : St) (n : Nat) : Prop where
  size : s.code.length + 3 * s.stack.length + 10 * s.opens.length ≤ n
  hs : Heights s.opens.reverse s.stack.length
  ks : ∀ k ∈ s.stack, k = 126 ∨ k = 127
  os : ∀ b ∈ s.opens, (b.op = 2 ∨ b.op = 3 ∨ b.op = 4 ∨ b.op = 5) ∧ (b.res = 64 ∨ b.res = 126 ∨ b.res = 127)
theorem Inv.start : Inv .start 0 := ⟨by simp [St.start], trivial, by simp [St.start], by simp [St.start]⟩
theorem Inv.mono {s : St} {n m : Nat} (h : Inv s n) (hm : n ≤ m) : Inv s m := ⟨Nat.le_trans h.size hm, h.hs, h.ks, h.os⟩
theorem top_of {s : St} {b : Opn} (h : s.opens.getLast? = some b) : topH s = b.height := by unfold topH; rw [h]; rfl
theorem last_rev {l : List Opn} {b : Opn} (h : l.getLast? = some b) : l.reverse = b :: l.dropLast.reverse := by
  rcases List.eq_nil_or_concat l with rfl | ⟨l0, x, rfl⟩
  · cases h
  · rw [List.concat_eq_append] at h ⊢
    simp at h
    subst h
    simp
theorem Inv.top_le {s : St} {n : Nat} (h : Inv s n) : topH s ≤ s.stack.length := by
  unfold topH
  cases hb : s.opens.getLast? with
  | none => simp
  | some b => have := h.hs; rw [last_rev hb] at this; exact this.1
theorem Inv.put {s : St} {n : Nat} (h : Inv s n) (op a b : Int) : Inv (putP s op a b) (n + 1) :=
  ⟨by have := h.size; simp [putP]; omega, h.hs, h.ks, h.os⟩
theorem Inv.push {s : St} {n : Nat} (h : Inv s n) {k : Nat} (hk : k = 126 ∨ k = 127) : Inv (pushP s k) (n + 3) :=
  ⟨by have := h.size; simp [pushP]; omega, h.hs.mono (by simp [pushP]), fun x hx => by simp [pushP] at hx; rcases hx with hx | rfl; exact h.ks x hx; exact hk, h.os⟩
theorem has_want {s : St} {n : Nat} (h : Inv s n) (k : Nat) : 0 < hasP (wantP s k) := by
  have ht := h.top_le
  unfold wantP
  split
  · unfold hasP topH; simp; unfold topH at ht; omega
  · split
    · omega
    · rename_i h0 _
      unfold hasP topH at h0 ⊢
      simp
      omega
theorem want_opens (s : St) (k : Nat) : (wantP s k).opens = s.opens := by
  unfold wantP
  split
  · rfl
  · split <;> rfl
theorem Inv.want {s : St} {n : Nat} (h : Inv s n) {k : Nat} (hk : k = 126 ∨ k = 127) : Inv (wantP s k) (n + 4) := by
  have hsz := h.size
  have ht := h.top_le
  unfold wantP
  split
  · exact ⟨by simp; omega, h.hs.mono (by simp), fun x hx => by simp at hx; rcases hx with hx | rfl; exact h.ks x hx; exact hk, h.os⟩
  · rename_i h0
    split
    · exact h.mono (by omega)
    · have hl : 0 < s.stack.length := by unfold hasP at h0; omega
      exact ⟨by simp; omega, h.hs.mono (by simp; omega), fun x hx => by simp at hx; rcases hx with hx | rfl; exact h.ks x (List.dropLast_subset _ hx); exact hk, h.os⟩
theorem want_last {s : St} {k : Nat} : (wantP s k).stack.getLast? = some k := by
  unfold wantP
  split
  · simp
  · split
    · assumption
    · simp
theorem Inv.take {s : St} {n : Nat} (h : Inv s n) (h0 : 0 < hasP s) : Inv (takeP s) n := by
  have hsz := h.size
  refine ⟨by simp [takeP]; omega, ?_, fun x hx => h.ks x (List.dropLast_subset _ hx), h.os⟩
  show Heights s.opens.reverse s.stack.dropLast.length
  rw [List.length_dropLast]
  unfold hasP topH at h0
  cases hb : s.opens.getLast? with
  | none => rw [show s.opens = [] from List.getLast?_eq_none_iff.1 hb]; trivial
  | some b =>
    have := h.hs
    rw [last_rev hb] at this ⊢
    rw [hb] at h0
    simp at h0
    exact ⟨by omega, this.2⟩
theorem Inv.ready {s : St} {n : Nat} (h : Inv s n) {b : Opn} (hb : b.res = 64 ∨ b.res = 126 ∨ b.res = 127) : Inv (readyP s b) (n + 4) := by
  unfold readyP
  split
  · exact h.mono (by omega)
  · exact h.want (by omega)
theorem ready_opens (s : St) (b : Opn) : (readyP s b).opens = s.opens := by
  unfold readyP
  split
  · rfl
  · exact want_opens s _
theorem ready_top (s : St) (b : Opn) : topH (readyP s b) = topH s := by unfold topH; rw [ready_opens]
theorem many_le {s : St} {n : Nat} (h : Inv s n) (b : Opn) : manyP b ≤ hasP (readyP s b) := by
  unfold manyP readyP
  split
  · omega
  · exact has_want h _
theorem level_opens (s : St) (b : Opn) : (levelP s b).opens = s.opens := ready_opens s b
/-- what a level costs: nothing but its want -/
theorem level_size {s : St} {n : Nat} (h : Inv s n) {b : Opn} (hb : b.res = 64 ∨ b.res = 126 ∨ b.res = 127) (hh : b.height = topH s) : (levelP s b).code.length + 3 * (levelP s b).stack.length + 10 * (levelP s b).opens.length ≤ n + 4 ∧ (levelP s b).stack.length = b.height := by
  have hr := h.ready hb
  have h1 := hr.size
  have h2 := hr.top_le
  rw [ready_top] at h2
  have h3 : (dropI b.res).length ≤ 3 := by unfold dropI; split <;> simp
  have h4 : (levelP s b).stack.length = b.height := by
    show ((readyP s b).stack.take b.height).length = _
    rw [List.length_take]; omega
  refine ⟨?_, h4⟩
  rw [h4]
  show ((readyP s b).code ++ (List.replicate (hasP (readyP s b) - manyP b) (dropI b.res)).flatten).length + _ + 10 * (readyP s b).opens.length ≤ _
  rw [List.length_append, List.length_flatten, List.map_replicate, List.sum_replicate_nat]
  unfold hasP
  rw [ready_top]
  have : ((readyP s b).stack.length - topH s - manyP b) * (dropI b.res).length ≤ ((readyP s b).stack.length - topH s) * 3 := Nat.mul_le_mul (by omega) h3
  omega
theorem Inv.level {s : St} {n : Nat} (h : Inv s n) {b : Opn} (hb : b.res = 64 ∨ b.res = 126 ∨ b.res = 127) (hh : b.height = topH s) : Inv (levelP s b) (n + 4) := by
  obtain ⟨h1, h2⟩ := level_size h hb hh
  refine ⟨h1, ?_, fun x hx => (h.ready hb).ks x (List.mem_of_mem_take hx), fun x hx => h.os x (by rw [level_opens] at hx; exact hx)⟩
  rw [level_opens, h2, hh]
  unfold topH
  cases hl : s.opens.getLast? with
  | none => rw [show s.opens = [] from List.getLast?_eq_none_iff.1 hl]; trivial
  | some c =>
    have := h.hs
    rw [last_rev hl] at this ⊢
    exact ⟨by simp, this.2⟩
theorem replicate_flat {α : Type} (l : List α) (j : Nat) : (List.replicate (j + 1) l).flatten = (List.replicate j l).flatten ++ l := by
  rw [List.replicate_succ', List.flatten_append]
  simp
theorem drop_last {l : List Nat} {k : Nat} (h : l.getLast? = some k) : l.take (l.length - 1) ++ [k] = l := by
  rcases List.eq_nil_or_concat l with rfl | ⟨l0, x, rfl⟩
  · cases h
  · rw [List.concat_eq_append] at h ⊢
    simp at h
    subst h
    simp
theorem levelS_zero (s : St) (b : Opn) : levelS s b 0 = readyP s b := by
  unfold levelS stkS
  have h1 : (if b.res = 64 then (readyP s b).stack.take ((readyP s b).stack.length - 0) else (readyP s b).stack.take ((readyP s b).stack.length - 1 - 0) ++ [b.res]) = (readyP s b).stack := by
    split
    · rw [Nat.sub_zero, List.take_length]
    · rename_i h
      rw [Nat.sub_zero]
      exact drop_last (by unfold readyP; rw [if_neg h]; exact want_last)
  rw [h1]
  simp
theorem stkS_len {s : St} {b : Opn} {j : Nat} (hj : j + manyP b ≤ (readyP s b).stack.length) : (stkS s b j).length = (readyP s b).stack.length - j := by
  unfold stkS
  unfold manyP at hj
  split
  · rw [List.length_take]; omega
  · rename_i h
    rw [if_neg h] at hj
    rw [List.length_append, List.length_take]
    simp
    omega
theorem levelS_has {s : St} {b : Opn} {j : Nat} (hj : j + manyP b ≤ (readyP s b).stack.length) : hasP (levelS s b j) = (readyP s b).stack.length - j - topH s := by
  unfold hasP
  have h1 : topH (levelS s b j) = topH s := by unfold topH levelS; rw [ready_opens]
  rw [h1]
  show (stkS s b j).length - _ = _
  rw [stkS_len hj]
theorem stkS_take {s : St} {b : Opn} {j : Nat} (hj : j + manyP b ≤ (readyP s b).stack.length) (hh : b.height + manyP b = (readyP s b).stack.length - j) : (stkS s b j).take b.height = (readyP s b).stack.take b.height := by
  unfold stkS
  unfold manyP at hj hh
  by_cases h : b.res = 64
  · rw [if_pos h] at hj hh ⊢
    rw [List.take_take]
    congr 1
    omega
  · rw [if_neg h] at hj hh ⊢
    rw [List.take_append_of_le_length (by rw [List.length_take]; omega), List.take_take]
    congr 1
    omega
theorem levelS_end {s : St} {b : Opn} {j : Nat} (hj : j = hasP (readyP s b) - manyP b) (hj2 : j + manyP b ≤ (readyP s b).stack.length) (hh : b.height + manyP b = (readyP s b).stack.length - j) : { levelS s b j with stack := (levelS s b j).stack.take b.height } = levelP s b := by
  have h1 := stkS_take hj2 hh
  unfold levelP levelS
  rw [← hj]
  simp only [h1]
theorem last_mem {s : St} {b : Opn} (h : s.opens.getLast? = some b) : b ∈ s.opens := List.mem_of_getLast? h
theorem Inv.shut {s : St} {n : Nat} (h : Inv s n) {b : Opn} (hb : s.opens.getLast? = some b) : Inv (shutP s b) n ∧ (shutP s b).opens.length + 1 = s.opens.length := by
  obtain ⟨o1, o2⟩ := h.os b (last_mem hb)
  have hl := h.level o2 (top_of hb).symm
  obtain ⟨_, h2⟩ := level_size h o2 (top_of hb).symm
  have hne : s.opens ≠ [] := by intro he; rw [he] at hb; cases hb
  have hpos : 0 < s.opens.length := List.length_pos_iff.2 hne
  have hlo := level_opens s b
  have hs1 := hl.size
  rw [hlo] at hs1
  have hH : Heights s.opens.dropLast.reverse b.height := by
    have := h.hs
    rw [last_rev hb] at this
    exact this.2
  have i2 : ∀ m, n + 4 + 1 - 10 ≤ m → Inv { levelP s b with code := (levelP s b).code ++ [⟨11, 0, 0⟩], opens := (levelP s b).opens.dropLast } m := fun m hm =>
    ⟨by simp [hlo]; omega, by show Heights (levelP s b).opens.dropLast.reverse (levelP s b).stack.length; rw [hlo, h2]; exact hH, hl.ks, fun x hx => h.os x (by
      have hx2 : x ∈ (levelP s b).opens.dropLast := hx
      rw [hlo] at hx2
      exact List.dropLast_subset _ hx2)⟩
  unfold shutP
  dsimp only
  split
  · exact ⟨i2 n (by omega), by simp [hlo]; omega⟩
  · refine ⟨?_, by simp [pushP, hlo]; omega⟩
    have := (i2 (n - 3) (by omega)).push (k := b.res) (by omega)
    exact this.mono (by omega)
theorem Inv.opens {s : St} {n : Nat} (h : Inv s n) {op : Int} {res : Nat} (ho : op = 2 ∨ op = 3 ∨ op = 4 ∨ op = 5) (hr : res = 64 ∨ res = 126 ∨ res = 127) : Inv (opensP s op res) (n + 11) :=
  ⟨by have := h.size; simp [opensP]; omega, by simp [opensP]; exact ⟨Nat.le_refl _, h.hs⟩, h.ks, fun x hx => by simp [opensP] at hx; rcases hx with hx | rfl; exact h.os x hx; exact ⟨ho, hr⟩⟩
theorem Inv.els {s : St} {n : Nat} (h : Inv s n) {b : Opn} (hb : s.opens.getLast? = some b) : Inv (elseP s b) (n + 5) := by
  obtain ⟨o1, o2⟩ := h.os b (last_mem hb)
  have hl := h.level o2 (top_of hb).symm
  obtain ⟨_, h2⟩ := level_size h o2 (top_of hb).symm
  have hne : s.opens ≠ [] := by intro he; rw [he] at hb; cases hb
  have hpos : 0 < s.opens.length := List.length_pos_iff.2 hne
  have hlo := level_opens s b
  have hs1 := hl.size
  rw [hlo] at hs1
  have hH := h.hs
  rw [last_rev hb] at hH
  unfold elseP
  dsimp only
  refine ⟨by simp [hlo]; omega, ?_, hl.ks, fun x hx => ?_⟩
  · simp [hlo, h2]
    exact ⟨Nat.le_refl _, hH.2⟩
  · simp [hlo] at hx
    rcases hx with hx | rfl
    · exact h.os x (List.dropLast_subset _ hx)
    · exact ⟨by simp, o2⟩
theorem Inv.jumps {s : St} {n : Nat} (h : Inv s n) (k : Nat) : Inv (jumpsP s k) (n + 5) := by
  unfold jumpsP
  split
  · exact h.mono (by omega)
  · split
    · exact h.mono (by omega)
    · exact ((h.want (.inr rfl)).put _ _ _).take (has_want h _)
theorem kindAt_or (n : Nat) : kindAt n = 126 ∨ kindAt n = 127 := by unfold kindAt; split <;> simp
theorem Inv.does {s : St} {n : Nat} (h : Inv s n) (t : Step) : Inv (doesP s t) (n + 20) := by
  have hk : 126 + t.op % 2 = 126 ∨ 126 + t.op % 2 = 127 := by omega
  have hw := fun {k : Nat} (hk : k = 126 ∨ k = 127) => h.want hk
  have hwt := fun (k : Nat) => has_want h k
  unfold doesP
  dsimp only
  by_cases h1 : t.kind % 16 ≤ 1
  · rw [if_pos h1]; exact ((h.put _ _ _).push hk).mono (by omega)
  rw [if_neg h1]
  by_cases h1 : t.kind % 16 ≤ 3
  · rw [if_pos h1]; exact (((hw hk).put _ _ _).put _ _ _).mono (by omega)
  rw [if_neg h1]
  by_cases h1 : t.kind % 16 = 4
  · rw [if_pos h1]; exact ((((hw hk).put _ _ _).take (hwt _)).push (.inr rfl)).mono (by omega)
  rw [if_neg h1]
  by_cases h1 : t.kind % 16 = 5
  · rw [if_pos h1]; exact ((h.put _ _ _).push (kindAt_or _)).mono (by omega)
  rw [if_neg h1]
  by_cases h1 : t.kind % 16 = 6
  · rw [if_pos h1]; exact (((hw (kindAt_or _)).put _ _ _).take (hwt _)).mono (by omega)
  rw [if_neg h1]
  by_cases h1 : t.kind % 16 = 7
  · rw [if_pos h1]; exact ((hw (kindAt_or _)).put _ _ _).mono (by omega)
  rw [if_neg h1]
  by_cases h1 : t.kind % 16 = 8
  · rw [if_pos h1]
    have h2 := (h.put 35 ((t.op % 2 : Nat) : Int) 0).push (k := 127 - t.op % 2) (by omega)
    exact (((h2.want (.inl rfl)).put _ _ _).take (has_want h2 _)).mono (by omega)
  rw [if_neg h1]
  by_cases h1 : t.kind % 16 = 9
  · rw [if_pos h1]; exact ((hw (.inr rfl)).put _ _ _).mono (by omega)
  rw [if_neg h1]
  by_cases h1 : t.kind % 16 = 10
  · rw [if_pos h1]; exact ((((hw (.inr rfl)).put _ _ _).put _ _ _).take (hwt _)).mono (by omega)
  rw [if_neg h1]
  by_cases h1 : t.kind % 16 = 11
  · rw [if_pos h1]
    have ho : (2 + ((t.op % 2 : Nat) : Int) = 2 ∨ 2 + ((t.op % 2 : Nat) : Int) = 3 ∨ 2 + ((t.op % 2 : Nat) : Int) = 4 ∨ 2 + ((t.op % 2 : Nat) : Int) = 5) := by omega
    have hr : ((if t.op / 2 % 3 = 0 then 64 else 128 - t.op / 2 % 3) = 64 ∨ (if t.op / 2 % 3 = 0 then 64 else 128 - t.op / 2 % 3) = 126 ∨ (if t.op / 2 % 3 = 0 then 64 else 128 - t.op / 2 % 3) = 127) := by split <;> omega
    exact (h.opens ho hr).mono (by omega)
  rw [if_neg h1]
  by_cases h1 : t.kind % 16 = 12
  · rw [if_pos h1]; exact (((hw (.inr rfl)).take (hwt _)).opens (by omega) (by omega)).mono (by omega)
  rw [if_neg h1]
  by_cases h1 : t.kind % 16 = 13
  · rw [if_pos h1]
    cases hb : s.opens.getLast? with
    | none => exact h.mono (by omega)
    | some b =>
      dsimp only
      by_cases h2 : b.op = 4 ∧ t.op % 2 = 0
      · rw [if_pos h2]; exact (h.els hb).mono (by omega)
      · rw [if_neg h2]; exact (h.shut hb).1.mono (by omega)
  rw [if_neg h1]
  by_cases h1 : t.kind % 16 = 14
  · rw [if_pos h1]; exact (h.jumps _).mono (by omega)
  rw [if_neg h1]
  by_cases h1 : t.op % 3 = 0
  · rw [if_pos h1]; exact ((h.put _ _ _).push (.inr rfl)).mono (by omega)
  rw [if_neg h1]
  by_cases h1 : t.op % 3 = 1
  · rw [if_pos h1]; exact (h.put _ _ _).mono (by omega)
  rw [if_neg h1]
  exact (((h.put _ _ _).push (.inr rfl)).put _ _ _).mono (by omega)
theorem runP_append (s : St) (a b : List Step) : runP s (a ++ b) = runP (runP s a) b := List.foldl_append ..
theorem Inv.run {s : St} {n : Nat} (h : Inv s n) : ∀ l : List Step, Inv (runP s l) (n + 20 * l.length)
  | [] => h
  | t :: l => by
    have := Inv.run (h.does t) l
    exact this.mono (by simp; omega)
theorem run_snoc {l : List Step} {k : Nat} {t : Step} (h : l[k]? = some t) : runP .start (l.take (k + 1)) = doesP (runP .start (l.take k)) t := by
  rw [List.take_add_one, h, runP_append]
  rfl
theorem shutAll_last {s : St} {b : Opn} (h : s.opens.getLast? = some b) (n : Nat) : shutAll (n + 1) s = shutAll n (shutP s b) := by
  show (match s.opens.getLast? with | none => s | some b => shutAll n (shutP s b)) = _
  rw [h]
end Go.Proofs.YtmbgemcddjailaaGreatDoor.Pg
