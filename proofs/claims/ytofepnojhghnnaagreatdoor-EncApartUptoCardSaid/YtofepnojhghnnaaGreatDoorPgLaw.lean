/-
  What made makes: each instruction is right, the code is structured. Plain: no program in sight.
-/
import Derived.Test.YtofepnojhghnnaaGreatDoorPgPlain
import Derived.Test.YtofepnojhghnnaaGreatDoorOpRightN
import Derived.Test.YtofepnojhghnnaaGreatDoorModPlain
namespace Go.Proofs.YtofepnojhghnnaaGreatDoor.Pg
open Go.RowKit Go.Proofs.YtofepnojhghnnaaGreatDoor.Op Go.Proofs.YtofepnojhghnnaaGreatDoor.Mod
set_option linter.unusedVariables false
def okI (x : Ins) : Bool := rightB x.op x.a x.b []
def i66 : Info := ⟨⟨#[105, 54, 52, 46, 99, 111, 110, 115, 116]⟩, 7, ⟨#[]⟩, ⟨#[126]⟩⟩
def i65' : Info := ⟨⟨#[105, 51, 50, 46, 99, 111, 110, 115, 116]⟩, 7, ⟨#[]⟩, ⟨#[127]⟩⟩
theorem oi66 : opInfo 66 = some i66 := by kernel_rfl
theorem oi65 : opInfo 65 = some i65' := by kernel_rfl
theorem ok66 (a : Int) : okI ⟨66, a, 0⟩ = true := by
  show rightB 66 a 0 [] = true
  rw [right_tail oi66 a 0 (.inl rfl), tail_7]
  simp
theorem wrap_wrap (a : Int) : wrap32 (wrap32 a) = wrap32 a := by unfold wrap32; omega
theorem ok65 (a : Int) : okI ⟨65, wrap32 a, 0⟩ = true := by
  show rightB 65 (wrap32 a) 0 [] = true
  rw [right_tail oi65 _ 0 (.inl rfl), tail_7, wrap_wrap]
  simp
theorem shape_mem : ([40, 60, 61, 62].all fun o => ((opInfo o).map fun i => i.shape) == some 5) = true := by kernel_rfl
theorem okMem {o a b : Int} (ho : o = 40 ∨ o = 60 ∨ o = 61 ∨ o = 62) (ha : 0 ≤ a ∧ a < 4294967296) (hb : 0 ≤ b ∧ b < 4294967296) : okI ⟨o, a, b⟩ = true := by
  show rightB o a b [] = true
  have h := List.all_eq_true.1 shape_mem o (by rcases ho with rfl | rfl | rfl | rfl <;> simp)
  cases hi : opInfo o with
  | none => rw [hi] at h; simp at h
  | some i =>
    obtain ⟨nm, sh, p, r⟩ := i
    rw [hi] at h
    simp at h
    subst h
    rw [right_tail hi a b (.inr rfl), tail_w 5 o a b (by decide) (by decide)]
    rw [word_yes ha.1 ha.2, word_yes hb.1 hb.2]
    rfl
theorem shape_ix : ([13, 32, 33, 34, 35, 36].all fun o => ((opInfo o).map fun i => decide (2 ≤ i.shape ∧ i.shape ≤ 4)) == some true) = true := by kernel_rfl
theorem okIx {o : Int} {n : Int} (ho : o = 13 ∨ o = 32 ∨ o = 33 ∨ o = 34 ∨ o = 35 ∨ o = 36) (hn : 0 ≤ n ∧ n < 4294967296) : okI ⟨o, n, 0⟩ = true := by
  show rightB o n 0 [] = true
  have h := List.all_eq_true.1 shape_ix o (by rcases ho with rfl | rfl | rfl | rfl | rfl | rfl <;> simp)
  cases hi : opInfo o with
  | none => rw [hi] at h; simp at h
  | some i =>
    obtain ⟨nm, sh, p, r⟩ := i
    rw [hi] at h
    simp at h
    rw [right_tail hi n 0 (.inl rfl), tail_w sh o n 0 h.1 (by omega), word_yes hn.1 hn.2, word0]
    rfl
def plainOps : List Int := [1, 5, 11, 26, 63, 64, 69, 80, 167, 173] ++ (List.range 15).map (fun (k : Nat) => 106 + (k : Int)) ++ (List.range 15).map (fun (k : Nat) => 124 + (k : Int))
theorem plain_ok : (plainOps.all fun o => rightB o 0 0 []) = true := by kernel_rfl
theorem ok0 {o : Int} (h : o ∈ plainOps) : okI ⟨o, 0, 0⟩ = true := List.all_eq_true.1 plain_ok o h
theorem okNum {o : Int} {k : Nat} (h : o = 106 ∨ o = 124) (hk : k < 15) : okI ⟨o + (k : Int), 0, 0⟩ = true := by
  refine ok0 ?_
  unfold plainOps
  rcases h with rfl | rfl
  · exact List.mem_append_left _ (List.mem_append_right _ (List.mem_map.2 ⟨k, by simpa using hk, rfl⟩))
  · exact List.mem_append_right _ (List.mem_map.2 ⟨k, by simpa using hk, rfl⟩)
theorem block_ok : (([2, 3, 4] : List Int).all fun o => ([64, 126, 127] : List Int).all fun a => rightB o a 0 []) = true := by kernel_rfl
theorem okBlock {o : Int} {r : Nat} (ho : o = 2 ∨ o = 3 ∨ o = 4) (hr : r = 64 ∨ r = 126 ∨ r = 127) : okI ⟨o, (r : Int), 0⟩ = true := by
  have h := List.all_eq_true.1 block_ok o (by rcases ho with rfl | rfl | rfl <;> simp)
  exact List.all_eq_true.1 h (r : Int) (by rcases hr with rfl | rfl | rfl <;> simp)
/-! the code's instructions -/
def Oks (s : St) : Prop := ∀ x ∈ s.code, okI x = true
theorem Oks.add {c : List Ins} {l : List Ins} (h : ∀ x ∈ c, okI x = true) (hl : ∀ x ∈ l, okI x = true) : ∀ x ∈ c ++ l, okI x = true := fun x hx => (List.mem_append.1 hx).elim (h x) (hl x)
theorem one_ok {x : Ins} (h : okI x = true) : ∀ y ∈ [x], okI y = true := fun y hy => by rw [List.mem_singleton.1 hy]; exact h
theorem Oks.put {s : St} (h : Oks s) {o a b : Int} (hx : okI ⟨o, a, b⟩ = true) : Oks (putP s o a b) := Oks.add h (one_ok hx)
theorem Oks.push {s : St} (h : Oks s) (k : Nat) : Oks (pushP s k) := h
theorem Oks.take {s : St} (h : Oks s) : Oks (takeP s) := h
theorem Oks.want {s : St} (h : Oks s) {k : Nat} (hk : k = 126 ∨ k = 127) : Oks (wantP s k) := by
  unfold wantP
  by_cases h0 : hasP s = 0
  · rw [if_pos h0]
    refine Oks.add h (one_ok ?_)
    rcases hk with rfl | rfl
    · exact ok66 7
    · have h7 := ok65 7
      rw [show wrap32 7 = 7 by unfold wrap32; omega] at h7
      exact h7
  · rw [if_neg h0]
    by_cases h1 : s.stack.getLast? = some k
    · rw [if_pos h1]; exact h
    · rw [if_neg h1]
      refine Oks.add h (one_ok ?_)
      rcases hk with rfl | rfl
      · exact ok0 (o := 173) (by decide)
      · exact ok0 (o := 167) (by decide)
theorem drop_ok {r : Nat} (hr : r = 64 ∨ r = 126 ∨ r = 127) : ∀ x ∈ dropI r, okI x = true := by
  have h26 : okI ⟨26, 0, 0⟩ = true := ok0 (by decide)
  rcases hr with rfl | rfl | rfl
  · exact one_ok h26
  · intro x hx
    have hx2 : x = ⟨33, 129 - ((126 : Nat) : Int), 0⟩ ∨ x = ⟨26, 0, 0⟩ ∨ x = ⟨32, 129 - ((126 : Nat) : Int), 0⟩ := by simpa [dropI] using hx
    rcases hx2 with rfl | rfl | rfl
    · exact okIx (by simp) (by omega)
    · exact h26
    · exact okIx (by simp) (by omega)
  · intro x hx
    have hx2 : x = ⟨33, 129 - ((127 : Nat) : Int), 0⟩ ∨ x = ⟨26, 0, 0⟩ ∨ x = ⟨32, 129 - ((127 : Nat) : Int), 0⟩ := by simpa [dropI] using hx
    rcases hx2 with rfl | rfl | rfl
    · exact okIx (by simp) (by omega)
    · exact h26
    · exact okIx (by simp) (by omega)
theorem Oks.level {s : St} (h : Oks s) {b : Opn} (hb : b.res = 64 ∨ b.res = 126 ∨ b.res = 127) : Oks (levelP s b) := by
  have hr : Oks (readyP s b) := by
    unfold readyP
    split
    · exact h
    · exact h.want (by omega)
  refine Oks.add hr (fun x hx => ?_)
  obtain ⟨l, hl, hx⟩ := List.mem_flatten.1 hx
  rw [(List.mem_replicate.1 hl).2] at hx
  exact drop_ok hb x hx
theorem Oks.shut {s : St} (h : Oks s) {b : Opn} (hb : b.res = 64 ∨ b.res = 126 ∨ b.res = 127) : Oks (shutP s b) := by
  have h1 : ∀ x ∈ (levelP s b).code ++ [(⟨11, 0, 0⟩ : Ins)], okI x = true := Oks.add (h.level hb) (one_ok (ok0 (by decide)))
  unfold shutP
  dsimp only
  split
  · exact h1
  · exact h1
theorem Oks.els {s : St} (h : Oks s) {b : Opn} (hb : b.res = 64 ∨ b.res = 126 ∨ b.res = 127) : Oks (elseP s b) := Oks.add (h.level hb) (one_ok (ok0 (by decide)))
theorem Oks.opens {s : St} (h : Oks s) {o : Int} {r : Nat} (ho : o = 2 ∨ o = 3 ∨ o = 4) (hr : r = 64 ∨ r = 126 ∨ r = 127) : Oks (opensP s o r) := Oks.add h (one_ok (okBlock ho hr))
theorem Oks.jumps {s : St} {n : Nat} (h : Oks s) (hI : Inv s n) (hn : n ≤ 1000000) (k : Nat) : Oks (jumpsP s k) := by
  unfold jumpsP
  split
  · exact h
  · rename_i b hb
    split
    · exact h
    · refine ((h.want (.inr rfl)).put (okIx (by simp) ?_)).take
      have hs := hI.size
      have : k % s.opens.length < 4294967296 := by
        rcases Nat.eq_zero_or_pos s.opens.length with h0 | h0
        · rw [List.eq_nil_of_length_eq_zero h0] at hb; simp at hb
        · have := Nat.mod_lt k h0; omega
      omega
theorem Oks.does {s : St} {n : Nat} (h : Oks s) (hI : Inv s n) (hn : n ≤ 1000000) (t : Step) : Oks (doesP s t) := by
  have hk : 126 + t.op % 2 = 126 ∨ 126 + t.op % 2 = 127 := by omega
  unfold doesP
  dsimp only
  by_cases h1 : t.kind % 16 ≤ 1
  · rw [if_pos h1]
    refine (h.put ?_).push _
    rcases hk with e | e
    · rw [e, if_neg (by decide)]; exact ok66 _
    · rw [e, if_pos rfl]; exact ok65 _
  rw [if_neg h1]
  by_cases h1 : t.kind % 16 ≤ 3
  · rw [if_pos h1]
    refine ((h.want hk).put (okIx (by simp) (by omega))).put ?_
    rcases hk with e | e
    · rw [e, if_neg (by decide)]; exact okNum (.inr rfl) (Nat.mod_lt _ (by decide))
    · rw [e, if_pos rfl]; exact okNum (.inl rfl) (Nat.mod_lt _ (by decide))
  rw [if_neg h1]
  by_cases h1 : t.kind % 16 = 4
  · rw [if_pos h1]
    refine ((h.want hk).put ?_).take.push _
    rcases hk with e | e
    · rw [e, if_neg (by decide)]; exact ok0 (by decide)
    · rw [e, if_pos rfl]; exact ok0 (by decide)
  rw [if_neg h1]
  by_cases h1 : t.kind % 16 = 5
  · rw [if_pos h1]; exact (h.put (okIx (by simp) (by omega))).push _
  rw [if_neg h1]
  by_cases h1 : t.kind % 16 = 6
  · rw [if_pos h1]; exact ((h.want (kindAt_or _)).put (okIx (by simp) (by omega))).take
  rw [if_neg h1]
  by_cases h1 : t.kind % 16 = 7
  · rw [if_pos h1]; exact (h.want (kindAt_or _)).put (okIx (by simp) (by omega))
  rw [if_neg h1]
  by_cases h1 : t.kind % 16 = 8
  · rw [if_pos h1]
    exact ((((h.put (okIx (by simp) (by omega))).push _).want (.inl rfl)).put (okIx (by simp) (by omega))).take
  rw [if_neg h1]
  by_cases h1 : t.kind % 16 = 9
  · rw [if_pos h1]; exact (h.want (.inr rfl)).put (okMem (by simp) (by omega) (by omega))
  rw [if_neg h1]
  by_cases h1 : t.kind % 16 = 10
  · rw [if_pos h1]; exact (((h.want (.inr rfl)).put (okIx (by simp) (by omega))).put (okMem (by omega) (by omega) (by omega))).take
  rw [if_neg h1]
  by_cases h1 : t.kind % 16 = 11
  · rw [if_pos h1]
    exact h.opens (by omega) (by split <;> omega)
  rw [if_neg h1]
  by_cases h1 : t.kind % 16 = 12
  · rw [if_pos h1]; exact (h.want (.inr rfl)).take.opens (by omega) (by omega)
  rw [if_neg h1]
  by_cases h1 : t.kind % 16 = 13
  · rw [if_pos h1]
    cases hb : s.opens.getLast? with
    | none => exact h
    | some b =>
      have o2 := (hI.os b (last_mem hb)).2
      dsimp only
      split
      · exact h.els o2
      · exact h.shut o2
  rw [if_neg h1]
  by_cases h1 : t.kind % 16 = 14
  · rw [if_pos h1]; exact h.jumps hI hn _
  rw [if_neg h1]
  by_cases h1 : t.op % 3 = 0
  · rw [if_pos h1]; exact (h.put (ok0 (by decide))).push _
  rw [if_neg h1]
  by_cases h1 : t.op % 3 = 1
  · rw [if_pos h1]; exact h.put (ok0 (by decide))
  rw [if_neg h1]
  exact ((h.put (ok0 (by decide))).push _).put (ok0 (by decide))
theorem Oks.run : ∀ (l : List Step) {s : St} {n : Nat}, Oks s → Inv s n → n + 20 * l.length ≤ 1000000 → Oks (runP s l)
  | [], _, _, h, _, _ => h
  | t :: l, s, n, h, hI, hn => by
    have hl : (t :: l).length = l.length + 1 := rfl
    exact Oks.run l (h.does hI (by omega) t) (hI.does t) (by omega)
theorem Oks.shutAll : ∀ (k : Nat) {s : St} {n : Nat}, Oks s → Inv s n → Oks (shutAll k s)
  | 0, _, _, h, _ => h
  | k + 1, s, n, h, hI => by
    cases hb : s.opens.getLast? with
    | none => show Oks (match s.opens.getLast? with | none => s | some b => Pg.shutAll k (shutP s b)); rw [hb]; exact h
    | some b => rw [shutAll_last hb]; exact Oks.shutAll k (h.shut (hI.os b (last_mem hb)).2) (hI.shut hb).1
theorem made_oks (l : List Step) : Oks (madeP l) := by
  have hI := Inv.run Inv.start (l.take 60)
  have hI2 : Inv (runP .start (l.take 60)) 1200 := hI.mono (by rw [List.length_take]; omega)
  have h1 : Oks (runP .start (l.take 60)) := Oks.run (l.take 60) (s := .start) (n := 0) (fun x hx => by simp [St.start] at hx) Inv.start (by rw [List.length_take]; omega)
  have h2 := Oks.shutAll (runP .start (l.take 60)).opens.length h1 hI2
  exact (h2.level (b := ⟨0, 126, 0⟩) (.inr (.inl rfl))).put (ok0 (by decide))
/-! the code's blocks -/
def runS : List Int → List Int → Option (List Int)
  | st, [] => some st
  | st, o :: os => (stepS st o).bind fun s => runS s os
theorem runS_append : ∀ (a b st : List Int), runS st (a ++ b) = (runS st a).bind fun s => runS s b
  | [], b, st => rfl
  | o :: a, b, st => by
    show (stepS st o).bind (fun s => runS s (a ++ b)) = ((stepS st o).bind fun s => runS s a).bind fun s => runS s b
    cases stepS st o with
    | none => rfl
    | some s => exact runS_append a b s
theorem runS_one (st : List Int) (o : Int) : runS st [o] = stepS st o := by
  show (stepS st o).bind (fun s => some s) = _
  cases stepS st o <;> rfl
theorem structB_run : ∀ (a : List Int) (st e : List Int) (b : List Int), runS st a = some e → structB st (a ++ b) = structB e b
  | [], st, e, b, h => by cases h; rfl
  | o :: a, st, e, b, h => by
    change (stepS st o).bind (fun s => runS s a) = some e at h
    cases hs : stepS st o with
    | none => rw [hs] at h; cases h
    | some s =>
      rw [hs] at h
      have hne : ¬ (o = 11 ∧ st = []) := by
        rintro ⟨rfl, rfl⟩
        simp [stepS] at hs
      show (if o = 11 ∧ st = [] then (a ++ b).isEmpty else match stepS st o with | none => false | some s => structB s (a ++ b)) = _
      rw [if_neg hne, hs]
      exact structB_run a s e b h
def Str (s : St) : Prop := runS [] (s.code.map Ins.op) = some (s.opens.map Opn.op)
def plainOp (o : Int) : Prop := o ≠ 2 ∧ o ≠ 3 ∧ o ≠ 4 ∧ o ≠ 5 ∧ o ≠ 11
theorem step_plain {o : Int} (h : plainOp o) (st : List Int) : stepS st o = some st := by
  obtain ⟨h2, h3, h4, h5, h11⟩ := h
  unfold stepS
  rw [if_neg (by omega), if_neg h5, if_neg h11]
theorem run_plain : ∀ (l : List Int) (st : List Int), (∀ o ∈ l, plainOp o) → runS st l = some st
  | [], st, _ => rfl
  | o :: l, st, h => by
    show (stepS st o).bind (fun s => runS s l) = some st
    rw [step_plain (h o (by simp)) st]
    exact run_plain l st (fun x hx => h x (List.mem_cons_of_mem _ hx))
theorem Str.add {s s' : St} (h : Str s) {l : List Ins} (hc : s'.code = s.code ++ l) (ho : s'.opens.map Opn.op = s.opens.map Opn.op) (hl : ∀ x ∈ l, plainOp x.op) : Str s' := by
  unfold Str
  rw [hc, ho, List.map_append, runS_append, h]
  exact run_plain _ _ (fun o hm => by obtain ⟨y, hy, rfl⟩ := List.mem_map.1 hm; exact hl y hy)
theorem one_plain {x : Ins} (h : plainOp x.op) : ∀ y ∈ [x], plainOp y.op := fun y hy => by rw [List.mem_singleton.1 hy]; exact h
theorem Str.put {s : St} (h : Str s) {o a b : Int} (hp : plainOp o) : Str (putP s o a b) := h.add rfl rfl (one_plain hp)
theorem Str.push {s : St} (h : Str s) (k : Nat) : Str (pushP s k) := h
theorem Str.take {s : St} (h : Str s) : Str (takeP s) := h
theorem Str.want {s : St} (h : Str s) {k : Nat} (hk : k = 126 ∨ k = 127) : Str (wantP s k) := by
  unfold wantP
  by_cases h0 : hasP s = 0
  · rw [if_pos h0]
    refine h.add rfl rfl (one_plain ?_)
    unfold plainOp
    dsimp only
    omega
  · rw [if_neg h0]
    by_cases h1 : s.stack.getLast? = some k
    · rw [if_pos h1]; exact h
    · rw [if_neg h1]
      refine h.add rfl rfl (one_plain ?_)
      unfold plainOp
      dsimp only
      split <;> omega
theorem Str.ready {s : St} (h : Str s) {b : Opn} (hb : b.res = 64 ∨ b.res = 126 ∨ b.res = 127) : Str (readyP s b) := by
  unfold readyP
  split
  · exact h
  · exact h.want (by omega)
theorem Str.level {s : St} (h : Str s) {b : Opn} (hb : b.res = 64 ∨ b.res = 126 ∨ b.res = 127) : Str (levelP s b) := by
  refine (h.ready hb).add rfl rfl (fun x hx => ?_)
  obtain ⟨l, hl, hx⟩ := List.mem_flatten.1 hx
  rw [(List.mem_replicate.1 hl).2] at hx
  unfold dropI at hx
  unfold plainOp
  split at hx
  · rw [List.mem_singleton.1 hx]; decide
  · simp at hx
    rcases hx with rfl | rfl | rfl <;> simp
theorem opens_snoc {s : St} {b : Opn} (h : s.opens.getLast? = some b) : s.opens = s.opens.dropLast ++ [b] := by
  rcases List.eq_nil_or_concat s.opens with he | ⟨l0, z, he⟩
  · rw [he] at h; cases h
  · rw [List.concat_eq_append] at he
    rw [he] at h ⊢
    simp at h
    subst h
    simp
theorem Str.shut {s : St} (h : Str s) {b : Opn} (hb : s.opens.getLast? = some b) (hr : b.res = 64 ∨ b.res = 126 ∨ b.res = 127) : Str (shutP s b) := by
  have h1 := h.level hr
  have h2 : runS [] (((levelP s b).code ++ [(⟨11, 0, 0⟩ : Ins)]).map Ins.op) = some ((levelP s b).opens.dropLast.map Opn.op) := by
    rw [List.map_append, runS_append, h1]
    show runS _ [11] = _
    rw [runS_one, level_opens, opens_snoc hb, List.map_append]
    unfold stepS
    rw [if_neg (by decide), if_neg (by decide), if_pos rfl, if_neg (by simp)]
    simp
  unfold shutP
  dsimp only
  split
  · exact h2
  · exact h2
theorem Str.els {s : St} (h : Str s) {b : Opn} (hb : s.opens.getLast? = some b) (hr : b.res = 64 ∨ b.res = 126 ∨ b.res = 127) (h4 : b.op = 4) : Str (elseP s b) := by
  have h1 := h.level hr
  unfold elseP Str
  dsimp only
  rw [List.map_append, runS_append, h1]
  show runS _ [5] = _
  rw [runS_one, level_opens, opens_snoc hb, List.map_append, List.dropLast_concat, List.map_append]
  unfold stepS
  rw [if_neg (by decide), if_pos rfl, if_pos (by simp [h4])]
  simp
theorem Str.opens {s : St} (h : Str s) {o : Int} {r : Nat} (ho : o = 2 ∨ o = 3 ∨ o = 4) : Str (opensP s o r) := by
  unfold opensP Str
  dsimp only
  rw [List.map_append, runS_append, h]
  show runS _ [o] = _
  rw [runS_one, List.map_append]
  unfold stepS
  rw [if_pos ho]
  rfl
theorem Str.jumps {s : St} (h : Str s) (k : Nat) : Str (jumpsP s k) := by
  unfold jumpsP
  split
  · exact h
  · split
    · exact h
    · exact ((h.want (.inr rfl)).put (by unfold plainOp; omega)).take
theorem Str.does {s : St} {n : Nat} (h : Str s) (hI : Inv s n) (t : Step) : Str (doesP s t) := by
  have hk : 126 + t.op % 2 = 126 ∨ 126 + t.op % 2 = 127 := by omega
  have pl : ∀ {o : Int}, (6 ≤ o ∧ o ≠ 11) → plainOp o := fun h => by unfold plainOp; omega
  unfold doesP
  dsimp only
  by_cases h1 : t.kind % 16 ≤ 1
  · rw [if_pos h1]; exact (h.put (pl (by omega))).push _
  rw [if_neg h1]
  by_cases h1 : t.kind % 16 ≤ 3
  · rw [if_pos h1]
    exact ((h.want hk).put (pl (by omega))).put (pl (by split <;> omega))
  rw [if_neg h1]
  by_cases h1 : t.kind % 16 = 4
  · rw [if_pos h1]; exact ((h.want hk).put (pl (by split <;> omega))).take.push _
  rw [if_neg h1]
  by_cases h1 : t.kind % 16 = 5
  · rw [if_pos h1]; exact (h.put (pl (by omega))).push _
  rw [if_neg h1]
  by_cases h1 : t.kind % 16 = 6
  · rw [if_pos h1]; exact ((h.want (kindAt_or _)).put (pl (by omega))).take
  rw [if_neg h1]
  by_cases h1 : t.kind % 16 = 7
  · rw [if_pos h1]; exact (h.want (kindAt_or _)).put (pl (by omega))
  rw [if_neg h1]
  by_cases h1 : t.kind % 16 = 8
  · rw [if_pos h1]; exact ((((h.put (pl (by omega))).push _).want (.inl rfl)).put (pl (by omega))).take
  rw [if_neg h1]
  by_cases h1 : t.kind % 16 = 9
  · rw [if_pos h1]; exact (h.want (.inr rfl)).put (pl (by omega))
  rw [if_neg h1]
  by_cases h1 : t.kind % 16 = 10
  · rw [if_pos h1]; exact (((h.want (.inr rfl)).put (pl (by omega))).put (pl (by omega))).take
  rw [if_neg h1]
  by_cases h1 : t.kind % 16 = 11
  · rw [if_pos h1]; exact h.opens (by omega)
  rw [if_neg h1]
  by_cases h1 : t.kind % 16 = 12
  · rw [if_pos h1]; exact (h.want (.inr rfl)).take.opens (by omega)
  rw [if_neg h1]
  by_cases h1 : t.kind % 16 = 13
  · rw [if_pos h1]
    cases hb : s.opens.getLast? with
    | none => exact h
    | some b =>
      have o2 := (hI.os b (last_mem hb)).2
      dsimp only
      by_cases h4 : b.op = 4 ∧ t.op % 2 = 0
      · rw [if_pos h4]; exact h.els hb o2 h4.1
      · rw [if_neg h4]; exact h.shut hb o2
  rw [if_neg h1]
  by_cases h1 : t.kind % 16 = 14
  · rw [if_pos h1]; exact h.jumps _
  rw [if_neg h1]
  by_cases h1 : t.op % 3 = 0
  · rw [if_pos h1]; exact (h.put (pl (by omega))).push _
  rw [if_neg h1]
  by_cases h1 : t.op % 3 = 1
  · rw [if_pos h1]; exact h.put (by unfold plainOp; omega)
  rw [if_neg h1]
  exact ((h.put (pl (by omega))).push _).put (pl (by omega))
theorem Str.run : ∀ (l : List Step) {s : St} {n : Nat}, Str s → Inv s n → Str (runP s l)
  | [], _, _, h, _ => h
  | t :: l, s, n, h, hI => Str.run l (h.does hI t) (hI.does t)
theorem Str.shutAll : ∀ (k : Nat) {s : St} {n : Nat}, Str s → Inv s n → Str (shutAll k s)
  | 0, _, _, h, _ => h
  | k + 1, s, n, h, hI => by
    cases hb : s.opens.getLast? with
    | none => show Str (match s.opens.getLast? with | none => s | some b => Pg.shutAll k (shutP s b)); rw [hb]; exact h
    | some b => rw [shutAll_last hb]; exact Str.shutAll k (h.shut hb (hI.os b (last_mem hb)).2) (hI.shut hb).1
theorem shutAll_nil : ∀ (k : Nat) (s : St) (n : Nat), Inv s n → s.opens.length = k → (shutAll k s).opens = []
  | 0, s, n, h, hk => List.eq_nil_of_length_eq_zero hk
  | k + 1, s, n, h, hk => by
    obtain ⟨b, hb⟩ : ∃ b, s.opens.getLast? = some b := by
      cases hq : s.opens.getLast? with
      | none => rw [List.getLast?_eq_none_iff.1 hq] at hk; simp at hk
      | some b => exact ⟨b, rfl⟩
    rw [shutAll_last hb]
    obtain ⟨h1, h2⟩ := h.shut hb
    exact shutAll_nil k _ n h1 (by omega)
theorem made_struct (l : List Step) : structB [] ((madeP l).code.map Ins.op) = true := by
  have hI := Inv.run Inv.start (l.take 60)
  have h1 : Str (runP .start (l.take 60)) := Str.run (l.take 60) (s := .start) (n := 0) rfl Inv.start
  have h2 := Str.shutAll (runP .start (l.take 60)).opens.length h1 hI
  have h3 := shutAll_nil _ _ _ hI rfl
  have h4 := h2.level (b := ⟨0, 126, 0⟩) (.inr (.inl rfl))
  unfold Str at h4
  rw [level_opens, h3] at h4
  show structB [] (((levelP _ ⟨0, 126, 0⟩).code ++ [(⟨11, 0, 0⟩ : Ins)]).map Ins.op) = true
  rw [List.map_append, structB_run _ _ _ _ h4]
  rfl
end Go.Proofs.YtofepnojhghnnaaGreatDoor.Pg
