/-
  Whatever is done, the code is blocks in one another, and each instruction right. Plain: no program in sight.
-/
import Derived.Test.YtlbgbpgjccbbjaaDoorAsmStruct
import Derived.Test.YtlbgbpgjccbbjaaDoorAsmEx
namespace Go.Proofs.YtlbgbpgjccbbjaaDoor.Asm
open Go.RowKit Go.Maps Go.Proofs.YtlbgbpgjccbbjaaDoor.Op
set_option linter.unusedVariables false
def Inv (s : St) : Prop := runS [] (s.code.map Ins.op) = some (s.opens.map Mk.code) ∧ ∀ x ∈ s.code, rightB x.op x.a x.b [] = true
theorem inv_snoc {s : St} (h : Inv s) (x : Ins) (l : List Mk) (h1 : stepS (s.opens.map Mk.code) x.op = some (l.map Mk.code)) (h2 : rightB x.op x.a x.b [] = true) : Inv { s with code := s.code ++ [x], opens := l } := by
  refine ⟨?_, fun y hy => ?_⟩
  · show runS [] ((s.code ++ [x]).map Ins.op) = some (l.map Mk.code)
    rw [List.map_append, runS_append, h.1]
    exact (runS_one _ _).trans h1
  · rcases List.mem_append.1 hy with hy | hy
    · exact h.2 y hy
    · rw [List.mem_singleton.1 hy]
      exact h2
theorem step_other {st : List Int} {o : Int} (h2 : o ≠ 2) (h3 : o ≠ 3) (h4 : o ≠ 4) (h5 : o ≠ 5) (h11 : o ≠ 11) : stepS st o = some st := by
  unfold stepS
  rw [if_neg (by omega), if_neg h5, if_neg h11]
theorem inv_op {s s' : St} {nm : List UInt8} {a b v : Int} (h : Inv s) (hr : opR s nm a b = (v, s')) : Inv s' := by
  unfold opR at hr
  cases ho : opOk nm a b with
  | none => rw [ho] at hr; cases hr; exact h
  | some c =>
    rw [ho] at hr
    cases hr
    unfold opOk at ho
    cases hc : codeOf nm with
    | none => rw [hc] at ho; cases ho
    | some c2 =>
      rw [hc] at ho
      simp only at ho
      split at ho
      · cases ho
      · rename_i hsp
        split at ho
        · rename_i hrt
          cases ho
          have hs : specialB c = false := by simpa using hsp
          simp only [specialB, Bool.or_eq_false_iff, beq_eq_false_iff_ne] at hs
          obtain ⟨⟨⟨⟨⟨⟨⟨h2, h3⟩, h4⟩, h5⟩, h11⟩, _⟩, _⟩, _⟩ := hs
          exact inv_snoc h ⟨c, a, b⟩ s.opens (step_other h2 h3 h4 h5 h11) hrt
        · cases ho
theorem right_open : ([2, 3, 4].all fun c => [127, 126, 64].all fun k => rightB c k 0 []) = true := by kernel_rfl
theorem inv_open {s s' : St} {nm : List UInt8} {lab : ByteArray} {k : UInt8} {v : Int} (h : Inv s) (hr : openR s nm lab k = (v, s')) : Inv s' := by
  unfold openR at hr
  cases ho : openOk nm k with
  | none => rw [ho] at hr; cases hr; exact h
  | some c =>
    rw [ho] at hr
    simp only at hr
    split at hr
    · cases hr; exact h
    · cases hr
      unfold openOk at ho
      cases hc : codeOf nm with
      | none => rw [hc] at ho; cases ho
      | some c2 =>
        rw [hc] at ho
        simp only at ho
        split at ho
        · rename_i hb
          cases ho
          simp only [Bool.and_eq_true] at hb
          have hq : c = 2 ∨ c = 3 ∨ c = 4 := by have := hb.1; simp [blockB] at this; omega
          have hk : k = 127 ∨ k = 126 ∨ k = 64 := by
            have := hb.2
            simp only [kindB, Bool.or_eq_true, beq_iff_eq] at this
            rcases this with (h | h) | h
            · exact .inl h
            · exact .inr (.inl h)
            · exact .inr (.inr h)
          refine inv_snoc h ⟨c, k.toNat, 0⟩ (s.opens ++ [⟨c, lab⟩]) ?_ ?_
          · unfold stepS
            rw [if_pos hq, List.map_append]
            rfl
          · have h1 := right_open
            simp only [List.all_cons, List.all_nil, Bool.and_true, Bool.and_eq_true] at h1
            obtain ⟨⟨a1, a2, a3⟩, ⟨b1, b2, b3⟩, c1, c2, c3⟩ := h1
            have k7 : ((127 : UInt8).toNat : Int) = 127 := rfl
            have k6 : ((126 : UInt8).toNat : Int) = 126 := rfl
            have k4 : ((64 : UInt8).toNat : Int) = 64 := rfl
            rcases hq with rfl | rfl | rfl
            · rcases hk with rfl | rfl | rfl
              · simp only [k7]; exact a1
              · simp only [k6]; exact a2
              · simp only [k4]; exact a3
            · rcases hk with rfl | rfl | rfl
              · simp only [k7]; exact b1
              · simp only [k6]; exact b2
              · simp only [k4]; exact b3
            · rcases hk with rfl | rfl | rfl
              · simp only [k7]; exact c1
              · simp only [k6]; exact c2
              · simp only [k4]; exact c3
        · cases ho
theorem right_5 : rightB 5 0 0 [] = true := by kernel_rfl
theorem right_11 : rightB 11 0 0 [] = true := by kernel_rfl
theorem i12 : opInfo 12 = some ⟨⟨#[98, 114]⟩, 2, ⟨#[]⟩, ⟨#[]⟩⟩ := by kernel_rfl
theorem i13 : opInfo 13 = some ⟨⟨#[98, 114, 95, 105, 102]⟩, 2, ⟨#[]⟩, ⟨#[]⟩⟩ := by kernel_rfl
theorem right_go {c : Int} (hc : c = 12 ∨ c = 13) {k : Nat} (hk : k < 1000) : rightB c k 0 [] = true := by
  have hw : wordB (k : Int) = true := word_yes (by omega) (by omega)
  rcases hc with rfl | rfl
  · rw [right_tail i12 _ _ (.inl rfl), tail_w 2 _ _ _ (by decide) (by decide), hw, word0]; rfl
  · rw [right_tail i13 _ _ (.inl rfl), tail_w 2 _ _ _ (by decide) (by decide), hw, word0]; rfl
theorem snoc_of_last {l : List Mk} {m : Mk} (h : l.getLast? = some m) : l = l.dropLast ++ [m] := by
  rcases List.eq_nil_or_concat l with he | ⟨l0, x, he⟩
  · rw [he] at h; cases h
  · rw [List.concat_eq_append] at he
    subst he
    simp at h
    subst h
    simp
theorem inv_else {s s' : St} {v : Int} (h : Inv s) (hr : elseR s = (v, s')) : Inv s' := by
  unfold elseR at hr
  cases hg : s.opens.getLast? with
  | none => rw [hg] at hr; cases hr; exact h
  | some m =>
    rw [hg] at hr
    simp only at hr
    split at hr
    · rename_i hm
      cases hr
      refine inv_snoc h ⟨5, 0, 0⟩ (s.opens.dropLast ++ [⟨5, m.label⟩]) ?_ right_5
      have he := snoc_of_last hg
      obtain ⟨l, hl⟩ : ∃ l, s.opens.dropLast = l := ⟨_, rfl⟩
      rw [hl] at he ⊢
      rw [he]
      unfold stepS
      rw [if_neg (by simp), if_pos rfl]
      simp [hm]
    · cases hr; exact h
theorem inv_close {s s' : St} {v : Int} (h : Inv s) (hr : closeR s = (v, s')) : Inv s' := by
  unfold closeR at hr
  cases hg : s.opens.getLast? with
  | none => rw [hg] at hr; cases hr; exact h
  | some m =>
    rw [hg] at hr
    cases hr
    refine inv_snoc h ⟨11, 0, 0⟩ s.opens.dropLast ?_ right_11
    have he := snoc_of_last hg
    obtain ⟨l, hl⟩ : ∃ l, s.opens.dropLast = l := ⟨_, rfl⟩
    rw [hl] at he ⊢
    rw [he]
    unfold stepS
    rw [if_neg (by simp), if_neg (by simp), if_pos rfl, if_neg (by simp)]
    simp
theorem labN_lt {lab : List UInt8} {l : List Mk} {k : Nat} (h : labN lab l = some k) : k < l.length := by
  unfold labN at h
  rw [List.findIdx?_eq_some_iff_getElem] at h
  obtain ⟨h1, _⟩ := h
  simpa using h1
theorem inv_go {s s' : St} {nm lab : List UInt8} {v : Int} (h : Inv s) (ho : s.opens.length ≤ 256) (hr : goR s nm lab = (v, s')) : Inv s' := by
  unfold goR at hr
  cases hc : goCode nm with
  | none => rw [hc] at hr; cases hr; exact h
  | some c =>
    rw [hc] at hr
    simp only at hr
    have hq : c = 12 ∨ c = 13 := by
      unfold goCode at hc
      split at hc
      · cases hc; exact .inl rfl
      · split at hc
        · cases hc; exact .inr rfl
        · cases hc
    cases hl : labN lab s.opens with
    | none => rw [hl] at hr; cases hr; exact h
    | some k =>
      rw [hl] at hr
      cases hr
      have n2 : c ≠ 2 := by omega
      have n3 : c ≠ 3 := by omega
      have n4 : c ≠ 4 := by omega
      have n5 : c ≠ 5 := by omega
      have n11 : c ≠ 11 := by omega
      exact inv_snoc h ⟨c, k, 0⟩ s.opens (step_other n2 n3 n4 n5 n11) (right_go hq (by have := labN_lt hl; omega))
theorem inv_start (p : Nat) (l : List UInt8) : Inv ⟨p, l, [], []⟩ := ⟨rfl, fun x hx => by cases hx⟩
end Go.Proofs.YtlbgbpgjccbbjaaDoor.Asm
