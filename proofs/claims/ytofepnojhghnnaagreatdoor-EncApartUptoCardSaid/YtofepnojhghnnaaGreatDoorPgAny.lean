/-
  What holds of each instruction that a program is made of: whatever holds of all that may be put. Plain.
-/
import Derived.Test.YtofepnojhghnnaaGreatDoorPgLaw
namespace Go.Proofs.YtofepnojhghnnaaGreatDoor.Pg
open Go.RowKit Go.Proofs.YtofepnojhghnnaaGreatDoor.Op Go.Proofs.YtofepnojhghnnaaGreatDoor.Mod
set_option linter.unusedVariables false
structure EmitP (P : Ins → Prop) : Prop where
  p7 : P ⟨66, 7, 0⟩
  p65 : ∀ a, P ⟨65, wrap32 a, 0⟩
  pix : ∀ {o n : Int}, (o = 13 ∨ o = 32 ∨ o = 33 ∨ o = 34 ∨ o = 35 ∨ o = 36) → (0 ≤ n ∧ n < 4294967296) → P ⟨o, n, 0⟩
  pmem : ∀ {o a b : Int}, (o = 40 ∨ o = 60 ∨ o = 61 ∨ o = 62) → (0 ≤ a ∧ a < 4294967296) → (0 ≤ b ∧ b < 4294967296) → P ⟨o, a, b⟩
  pnum : ∀ {o : Int} {k : Nat}, (o = 106 ∨ o = 124) → k < 15 → P ⟨o + (k : Int), 0, 0⟩
  p0 : ∀ {o : Int}, o ∈ plainOps → P ⟨o, 0, 0⟩
  pblock : ∀ {o : Int} {r : Nat}, (o = 2 ∨ o = 3 ∨ o = 4) → (r = 64 ∨ r = 126 ∨ r = 127) → P ⟨o, (r : Int), 0⟩
/-! the code's instructions -/
def Alls (P : Ins → Prop) (s : St) : Prop := ∀ x ∈ s.code, P x
theorem all_add {P : Ins → Prop} {c : List Ins} {l : List Ins} (h : ∀ x ∈ c, P x) (hl : ∀ x ∈ l, P x) : ∀ x ∈ c ++ l, P x := fun x hx => (List.mem_append.1 hx).elim (h x) (hl x)
theorem all_one {P : Ins → Prop} {x : Ins} (h : P x) : ∀ y ∈ [x], P y := fun y hy => by rw [List.mem_singleton.1 hy]; exact h
theorem Alls.put {P : Ins → Prop} {s : St} (h : Alls P s) {o a b : Int} (hx : P ⟨o, a, b⟩) : Alls P (putP s o a b) := all_add h (all_one hx)
theorem Alls.push {P : Ins → Prop} {s : St} (h : Alls P s) (k : Nat) : Alls P (pushP s k) := h
theorem Alls.take {P : Ins → Prop} {s : St} (h : Alls P s) : Alls P (takeP s) := h
theorem Alls.want {P : Ins → Prop} (hE : EmitP P) {s : St} (h : Alls P s) {k : Nat} (hk : k = 126 ∨ k = 127) : Alls P (wantP s k) := by
  unfold wantP
  by_cases h0 : hasP s = 0
  · rw [if_pos h0]
    refine all_add h (all_one ?_)
    rcases hk with rfl | rfl
    · exact hE.p7
    · have h7 := hE.p65 7
      rw [show wrap32 7 = 7 by unfold wrap32; omega] at h7
      exact h7
  · rw [if_neg h0]
    by_cases h1 : s.stack.getLast? = some k
    · rw [if_pos h1]; exact h
    · rw [if_neg h1]
      refine all_add h (all_one ?_)
      rcases hk with rfl | rfl
      · exact hE.p0  (by decide)
      · exact hE.p0  (by decide)
theorem all_drop {P : Ins → Prop} (hE : EmitP P) {r : Nat} (hr : r = 64 ∨ r = 126 ∨ r = 127) : ∀ x ∈ dropI r, P x := by
  have h26 : P ⟨26, 0, 0⟩ := hE.p0 (by decide)
  rcases hr with rfl | rfl | rfl
  · exact all_one h26
  · intro x hx
    have hx2 : x = ⟨33, 129 - ((126 : Nat) : Int), 0⟩ ∨ x = ⟨26, 0, 0⟩ ∨ x = ⟨32, 129 - ((126 : Nat) : Int), 0⟩ := by simpa [dropI] using hx
    rcases hx2 with rfl | rfl | rfl
    · exact hE.pix (by simp) (by omega)
    · exact h26
    · exact hE.pix (by simp) (by omega)
  · intro x hx
    have hx2 : x = ⟨33, 129 - ((127 : Nat) : Int), 0⟩ ∨ x = ⟨26, 0, 0⟩ ∨ x = ⟨32, 129 - ((127 : Nat) : Int), 0⟩ := by simpa [dropI] using hx
    rcases hx2 with rfl | rfl | rfl
    · exact hE.pix (by simp) (by omega)
    · exact h26
    · exact hE.pix (by simp) (by omega)
theorem Alls.level {P : Ins → Prop} (hE : EmitP P) {s : St} (h : Alls P s) {b : Opn} (hb : b.res = 64 ∨ b.res = 126 ∨ b.res = 127) : Alls P (levelP s b) := by
  have hr : Alls P (readyP s b) := by
    unfold readyP
    split
    · exact h
    · exact h.want hE (by omega)
  refine all_add hr (fun x hx => ?_)
  obtain ⟨l, hl, hx⟩ := List.mem_flatten.1 hx
  rw [(List.mem_replicate.1 hl).2] at hx
  exact all_drop hE hb x hx
theorem Alls.shut {P : Ins → Prop} (hE : EmitP P) {s : St} (h : Alls P s) {b : Opn} (hb : b.res = 64 ∨ b.res = 126 ∨ b.res = 127) : Alls P (shutP s b) := by
  have h1 : ∀ x ∈ (levelP s b).code ++ [(⟨11, 0, 0⟩ : Ins)], P x := all_add (h.level hE hb) (all_one (hE.p0 (by decide)))
  unfold shutP
  dsimp only
  split
  · exact h1
  · exact h1
theorem Alls.els {P : Ins → Prop} (hE : EmitP P) {s : St} (h : Alls P s) {b : Opn} (hb : b.res = 64 ∨ b.res = 126 ∨ b.res = 127) : Alls P (elseP s b) := all_add (h.level hE hb) (all_one (hE.p0 (by decide)))
theorem Alls.opens {P : Ins → Prop} (hE : EmitP P) {s : St} (h : Alls P s) {o : Int} {r : Nat} (ho : o = 2 ∨ o = 3 ∨ o = 4) (hr : r = 64 ∨ r = 126 ∨ r = 127) : Alls P (opensP s o r) := all_add h (all_one (hE.pblock ho hr))
theorem Alls.jumps {P : Ins → Prop} (hE : EmitP P) {s : St} {n : Nat} (h : Alls P s) (hI : Inv s n) (hn : n ≤ 1000000) (k : Nat) : Alls P (jumpsP s k) := by
  unfold jumpsP
  split
  · exact h
  · rename_i b hb
    split
    · exact h
    · refine ((h.want hE (.inr rfl)).put (hE.pix (by simp) ?_)).take
      have hs := hI.size
      have : k % s.opens.length < 4294967296 := by
        rcases Nat.eq_zero_or_pos s.opens.length with h0 | h0
        · rw [List.eq_nil_of_length_eq_zero h0] at hb; simp at hb
        · have := Nat.mod_lt k h0; omega
      omega
theorem Alls.does {P : Ins → Prop} (hE : EmitP P) {s : St} {n : Nat} (h : Alls P s) (hI : Inv s n) (hn : n ≤ 1000000) (t : Step) (h66 : P ⟨66, t.a, 0⟩) : Alls P (doesP s t) := by
  have hk : 126 + t.op % 2 = 126 ∨ 126 + t.op % 2 = 127 := by omega
  unfold doesP
  dsimp only
  by_cases h1 : t.kind % 16 ≤ 1
  · rw [if_pos h1]
    refine (h.put ?_).push _
    rcases hk with e | e
    · rw [e, if_neg (by decide)]; exact h66
    · rw [e, if_pos rfl]; exact hE.p65 _
  rw [if_neg h1]
  by_cases h1 : t.kind % 16 ≤ 3
  · rw [if_pos h1]
    refine ((h.want hE hk).put (hE.pix (by simp) (by omega))).put ?_
    rcases hk with e | e
    · rw [e, if_neg (by decide)]; exact hE.pnum (.inr rfl) (Nat.mod_lt _ (by decide))
    · rw [e, if_pos rfl]; exact hE.pnum (.inl rfl) (Nat.mod_lt _ (by decide))
  rw [if_neg h1]
  by_cases h1 : t.kind % 16 = 4
  · rw [if_pos h1]
    refine ((h.want hE hk).put ?_).take.push _
    rcases hk with e | e
    · rw [e, if_neg (by decide)]; exact hE.p0 (by decide)
    · rw [e, if_pos rfl]; exact hE.p0 (by decide)
  rw [if_neg h1]
  by_cases h1 : t.kind % 16 = 5
  · rw [if_pos h1]; exact (h.put (hE.pix (by simp) (by omega))).push _
  rw [if_neg h1]
  by_cases h1 : t.kind % 16 = 6
  · rw [if_pos h1]; exact ((h.want hE (kindAt_or _)).put (hE.pix (by simp) (by omega))).take
  rw [if_neg h1]
  by_cases h1 : t.kind % 16 = 7
  · rw [if_pos h1]; exact (h.want hE (kindAt_or _)).put (hE.pix (by simp) (by omega))
  rw [if_neg h1]
  by_cases h1 : t.kind % 16 = 8
  · rw [if_pos h1]
    exact ((((h.put (hE.pix (by simp) (by omega))).push _).want hE (.inl rfl)).put (hE.pix (by simp) (by omega))).take
  rw [if_neg h1]
  by_cases h1 : t.kind % 16 = 9
  · rw [if_pos h1]; exact (h.want hE (.inr rfl)).put (hE.pmem (by simp) (by omega) (by omega))
  rw [if_neg h1]
  by_cases h1 : t.kind % 16 = 10
  · rw [if_pos h1]; exact (((h.want hE (.inr rfl)).put (hE.pix (by simp) (by omega))).put (hE.pmem (by omega) (by omega) (by omega))).take
  rw [if_neg h1]
  by_cases h1 : t.kind % 16 = 11
  · rw [if_pos h1]
    exact h.opens hE (by omega) (by split <;> omega)
  rw [if_neg h1]
  by_cases h1 : t.kind % 16 = 12
  · rw [if_pos h1]; exact (h.want hE (.inr rfl)).take.opens hE (by omega) (by omega)
  rw [if_neg h1]
  by_cases h1 : t.kind % 16 = 13
  · rw [if_pos h1]
    cases hb : s.opens.getLast? with
    | none => exact h
    | some b =>
      have o2 := (hI.os b (last_mem hb)).2
      dsimp only
      split
      · exact h.els hE o2
      · exact h.shut hE o2
  rw [if_neg h1]
  by_cases h1 : t.kind % 16 = 14
  · rw [if_pos h1]; exact h.jumps hE hI hn _
  rw [if_neg h1]
  by_cases h1 : t.op % 3 = 0
  · rw [if_pos h1]; exact (h.put (hE.p0 (by decide))).push _
  rw [if_neg h1]
  by_cases h1 : t.op % 3 = 1
  · rw [if_pos h1]; exact h.put (hE.p0 (by decide))
  rw [if_neg h1]
  exact ((h.put (hE.p0 (by decide))).push _).put (hE.p0 (by decide))
theorem Alls.run {P : Ins → Prop} (hE : EmitP P) : ∀ (l : List Step) {s : St} {n : Nat}, (∀ t ∈ l, P ⟨66, t.a, 0⟩) → Alls P s → Inv s n → n + 20 * l.length ≤ 1000000 → Alls P (runP s l)
  | [], _, _, _, h, _, _ => h
  | t :: l, s, n, h6, h, hI, hn => by
    have hl : (t :: l).length = l.length + 1 := rfl
    exact Alls.run hE l (fun u hu => h6 u (List.mem_cons_of_mem _ hu)) (h.does hE hI (by omega) t (h6 t List.mem_cons_self)) (hI.does t) (by omega)
theorem Alls.shutAll {P : Ins → Prop} (hE : EmitP P) : ∀ (k : Nat) {s : St} {n : Nat}, Alls P s → Inv s n → Alls P (shutAll k s)
  | 0, _, _, h, _ => h
  | k + 1, s, n, h, hI => by
    cases hb : s.opens.getLast? with
    | none => show Alls P (match s.opens.getLast? with | none => s | some b => Pg.shutAll k (shutP s b)); rw [hb]; exact h
    | some b => rw [shutAll_last hb]; exact Alls.shutAll hE k (h.shut hE (hI.os b (last_mem hb)).2) (hI.shut hb).1
theorem made_alls {P : Ins → Prop} (hE : EmitP P) (l : List Step) (h66 : ∀ t ∈ l, P ⟨66, t.a, 0⟩) : Alls P (madeP l) := by
  have hI := Inv.run Inv.start (l.take 60)
  have hI2 : Inv (runP .start (l.take 60)) 1200 := hI.mono (by rw [List.length_take]; omega)
  have h1 : Alls P (runP .start (l.take 60)) := Alls.run hE (l.take 60) (s := .start) (n := 0) (fun t ht => h66 t (List.mem_of_mem_take ht)) (fun x hx => by simp [St.start] at hx) Inv.start (by rw [List.length_take]; omega)
  have h2 := Alls.shutAll hE (runP .start (l.take 60)).opens.length h1 hI2
  exact (h2.level hE (b := ⟨0, 126, 0⟩) (.inr (.inl rfl))).put (hE.p0 (by decide))
/-- numbers of 64 bits -/
def InsWf (x : Ins) : Prop := (-9223372036854775808 ≤ x.a ∧ x.a ≤ 9223372036854775807) ∧ (0 ≤ x.b ∧ x.b < 4294967296) ∧ 0 ≤ x.op ∧ x.op < 256
theorem plain_small : (plainOps.all fun o => decide (0 ≤ o ∧ o < 256)) = true := by kernel_rfl
theorem emit_wf : EmitP InsWf where
  p7 := by unfold InsWf; decide
  p65 := fun a => by unfold InsWf; dsimp only; unfold wrap32; omega
  pix := fun {o n} ho hn => by unfold InsWf; dsimp only; omega
  pmem := fun {o a b} ho ha hb => by unfold InsWf; dsimp only; omega
  pnum := fun {o k} ho hk => by unfold InsWf; dsimp only; omega
  p0 := fun {o} ho => by
    have := List.all_eq_true.1 plain_small o ho
    rw [decide_eq_true_iff] at this
    exact ⟨⟨by show (-9223372036854775808 : Int) ≤ 0; decide, by show (0 : Int) ≤ 9223372036854775807; decide⟩, ⟨by show (0 : Int) ≤ 0; decide, by show (0 : Int) < 4294967296; decide⟩, this⟩
  pblock := fun {o r} ho hr => by unfold InsWf; dsimp only; omega
theorem made_wf (l : List Step) (h : ∀ t ∈ l, -9223372036854775808 ≤ t.a ∧ t.a ≤ 9223372036854775807) : Alls InsWf (madeP l) :=
  made_alls emit_wf l (fun t ht => ⟨h t ht, ⟨by show (0 : Int) ≤ 0; decide, by show (0 : Int) < 4294967296; decide⟩, by show (0 : Int) ≤ 66; decide, by show (66 : Int) < 256; decide⟩)
end Go.Proofs.YtofepnojhghnnaaGreatDoor.Pg
