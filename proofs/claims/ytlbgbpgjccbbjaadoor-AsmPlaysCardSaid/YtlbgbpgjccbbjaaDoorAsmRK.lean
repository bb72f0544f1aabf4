/-
  Both Builders of chapter 17 side by side: what each method of either leaves of both. No condition beyond what each theorem names.
-/
import Derived.Test.YtlbgbpgjccbbjaaDoorAsmRF
namespace Go.Proofs.YtlbgbpgjccbbjaaDoor.Asm
open Go.RowKit Go.Maps Go.Proofs.YtlbgbpgjccbbjaaDoor.Op
set_option linter.unusedVariables false
/-- the program's Builder at bb, the reference's at rb, apart from one another, and from the blocks K -/
def Pair (w : World) (B bb rb : Nat) (P : ByteArray) (n : Nat) (s t : St) (K : Nat → Prop) : Prop := ∃ y : Rx, AtK w B bb n s (fun b => y.foot rb b ∨ K b) ∧ RAt w B rb P y t ∧ ∀ b, K b → ¬ y.foot rb b
theorem Pair.later {w w' : World} {B bb rb n : Nat} {P : ByteArray} {s t : St} {K : Nat → Prop} (h : Pair w B bb rb P n s t K) (hb : Below w.heap.size w w') : Pair w' B bb rb P n s t K := by
  obtain ⟨y, h1, h2, h3⟩ := h
  exact ⟨y, h1.later hb, h2.later hb, h3⟩
theorem Pair.sub {w : World} {B bb rb n : Nat} {P : ByteArray} {s t : St} {K K' : Nat → Prop} (h : Pair w B bb rb P n s t K) (hK : ∀ b, K' b → K b) : Pair w B bb rb P n s t K' := by
  obtain ⟨y, h1, h2, h3⟩ := h
  exact ⟨y, h1.sub (fun b hb => hb.imp id (hK b)), h2, fun b hb => h3 b (hK b hb)⟩
theorem Pair.mono {w : World} {B bb rb n n' : Nat} {P : ByteArray} {s t : St} {K : Nat → Prop} (h : Pair w B bb rb P n s t K) (hn : n ≤ n') : Pair w B bb rb P n' s t K := by
  obtain ⟨y, h1, h2, h3⟩ := h
  exact ⟨y, h1.mono hn, h2, h3⟩
theorem Pair.env {w : World} {B bb rb n : Nat} {P : ByteArray} {s t : St} {K : Nat → Prop} (h : Pair w B bb rb P n s t K) : Env B w := by
  obtain ⟨y, h1, h2, _⟩ := h
  exact h1.env
theorem Pair.alloc {w : World} {B bb rb n : Nat} {P : ByteArray} {s t : St} {K : Nat → Prop} (h : Pair w B bb rb P n s t K) (o : Obj) : Pair (w.alloc o) B bb rb P n s t (fun b => K b ∨ b = w.heap.size) := by
  obtain ⟨y, h1, h2, h3⟩ := h
  refine ⟨y, (h1.alloc o).sub (fun b hb => ?_), h2.later ((Below.refl _ _).alloc (Nat.le_refl _) o), fun b hb hf => ?_⟩
  · rcases hb with hb | hb | hb
    · exact .inl (.inl hb)
    · exact .inl (.inr hb)
    · exact .inr hb
  · rcases hb with hb | rfl
    · exact h3 b hb hf
    · exact Nat.lt_irrefl _ (h2.foot_lt _ hf).2
theorem Pair.ref {w w' : World} {B bb rb n : Nat} {P : ByteArray} {s t t' : St} {K : Nat → Prop} {y : Rx} (hA : AtK w B bb n s (fun b => y.foot rb b ∨ K b)) (hR : RAt w B rb P y t) (hD : ∀ b, K b → ¬ y.foot rb b) (hu : RUpd w B rb P y t' w') : Pair w' B bb rb P n s t' K ∧ Same B K w w' := by
  have hE := hA.env
  have hb := RUpd.from_base hR hE.size hu
  obtain ⟨y', g1, g2, g3⟩ := hu
  obtain ⟨x, h1, h2, h3, f⟩ := hA
  refine ⟨⟨y', ⟨x, h1.keeps g3 (fun k hk hf => (h3 k (.inl hf)).2 hk), h2.later hb, fun b hb' => ?_, f⟩, g1, fun b hb' hf => ?_⟩, hb, fun b hb' => g3.block b (h3 b (.inr hb')).1 (hD b hb')⟩
  · rcases hb' with hb' | hb'
    · have hlt := g1.foot_lt b hb'
      refine ⟨hlt.2, fun hx => ?_⟩
      rcases g2 b hb' with h | h
      · exact (h3 b (.inl h)).2 hx
      · have := (h1.foot_lt b hx).2; omega
    · exact ⟨Nat.lt_of_lt_of_le (h3 b (.inr hb')).1 g3.size, (h3 b (.inr hb')).2⟩
  · rcases g2 b hf with h | h
    · exact hD b hb' h
    · have := (h3 b (.inr hb')).1; omega
/-- .. what a method leaves -/
def PairS (B bb rb n : Nat) (P : ByteArray) (s t : St) (K : Nat → Prop) (w : World) (v : Value) (e : Ending) (w' : World) : Prop := e = .returned v ∧ Pair w' B bb rb P n s t K ∧ Same B K w w'
theorem pairS_asm {w w' : World} {B bb rb n : Nat} {P : ByteArray} {s' t : St} {K : Nat → Prop} {y : Rx} {v : Value} (hR : RAt w B rb P y t) (hD : ∀ b, K b → ¬ y.foot rb b) (h1 : AtK w' B bb n s' (fun b => y.foot rb b ∨ K b)) (h2 : Same B (fun b => y.foot rb b ∨ K b) w w') : PairS B bb rb n P s' t K w v (.returned v) w' :=
  ⟨rfl, ⟨y, h1, hR.kept (fun k hk => h2.2 k (.inl hk)), hD⟩, h2.sub fun b hb => .inr hb⟩
section
variable {w : World} {B bb rb n : Nat} {P : ByteArray} {s t : St} {K : Nat → Prop}
theorem p_op (h : Pair w B bb rb P n s t K) (hn : n < 500000) (nm : ByteArray) (a b : Int) (hs : nm.size ≤ maxLen) (v : Int) (s' : St) (hr : opR s nm.data.toList a b = (v, s')) :
    Calls Tryd.prog 34 #[.pointer (some ⟨bb, 0, none⟩), .string nm, .int .i64 a, .int .i64 b] w (PairS B bb rb (n + 1) P s' t K w (.int .i64 v)) := by
  obtain ⟨y, hA, hR, hD⟩ := h
  refine (k_op hA hn nm a b hs v s' hr).mono ?_
  rintro e w' ⟨rfl, h1, h2⟩
  exact pairS_asm hR hD h1 h2
theorem p_open (h : Pair w B bb rb P n s t K) (hn : n < 500000) (nm lab : ByteArray) (k : UInt8) (hs : nm.size ≤ maxLen) (v : Int) (s' : St) (hr : openR s nm.data.toList lab k = (v, s')) :
    Calls Tryd.prog 26 #[.pointer (some ⟨bb, 0, none⟩), .string nm, .string lab, .int .u8 (k.toNat : Int)] w (PairS B bb rb (n + 1) P s' t K w (.int .i64 v)) := by
  obtain ⟨y, hA, hR, hD⟩ := h
  refine (k_open hA hn nm lab k hs v s' hr).mono ?_
  rintro e w' ⟨rfl, h1, h2⟩
  exact pairS_asm hR hD h1 h2
theorem p_close (h : Pair w B bb rb P n s t K) (hn : n < 500000) (v : Int) (s' : St) (hr : closeR s = (v, s')) :
    Calls Tryd.prog 28 #[.pointer (some ⟨bb, 0, none⟩)] w (PairS B bb rb (n + 1) P s' t K w (.int .i64 v)) := by
  obtain ⟨y, hA, hR, hD⟩ := h
  refine (k_close hA hn v s' hr).mono ?_
  rintro e w' ⟨rfl, h1, h2⟩
  exact pairS_asm hR hD h1 h2
theorem p_else (h : Pair w B bb rb P n s t K) (hn : n < 500000) (v : Int) (s' : St) (hr : elseR s = (v, s')) :
    Calls Tryd.prog 29 #[.pointer (some ⟨bb, 0, none⟩)] w (PairS B bb rb (n + 1) P s' t K w (.int .i64 v)) := by
  obtain ⟨y, hA, hR, hD⟩ := h
  refine (k_else hA hn v s' hr).mono ?_
  rintro e w' ⟨rfl, h1, h2⟩
  exact pairS_asm hR hD h1 h2
theorem p_go (h : Pair w B bb rb P n s t K) (hn : n < 500000) (nm lab : ByteArray) (hs : nm.size ≤ maxLen) (v : Int) (s' : St) (hr : goR s nm.data.toList lab.data.toList = (v, s')) :
    Calls Tryd.prog 27 #[.pointer (some ⟨bb, 0, none⟩), .string nm, .string lab] w (PairS B bb rb (n + 1) P s' t K w (.int .i64 v)) := by
  obtain ⟨y, hA, hR, hD⟩ := h
  refine (k_go hA hn nm lab hs v s' hr).mono ?_
  rintro e w' ⟨rfl, h1, h2⟩
  exact pairS_asm hR hD h1 h2
theorem p_local (h : Pair w B bb rb P n s t K) (hn : n < 500000) (k : UInt8) (v e1 : Int) (s' : St) (hr : localR s k = (v, e1, s')) :
    Calls Tryd.prog 24 #[.pointer (some ⟨bb, 0, none⟩), .int .u8 (k.toNat : Int)] w (PairS B bb rb (n + 1) P s' t K w (.tuple #[.int .i64 v, .int .i64 e1])) := by
  obtain ⟨y, hA, hR, hD⟩ := h
  refine (k_local hA hn k v e1 s' hr).mono ?_
  rintro e w' ⟨rfl, h1, h2⟩
  exact pairS_asm hR hD h1 h2
/-! the reference's -/
def Few (t : St) : Prop := t.opens.length ≤ 256 ∧ t.locals.length ≤ 4000 ∧ t.params ≤ 64 ∧ t.code.length < 500000
theorem pairS_ref {w w' : World} {B bb rb n : Nat} {P : ByteArray} {s t t' : St} {K : Nat → Prop} {y : Rx} {v : Value} (hA : AtK w B bb n s (fun b => y.foot rb b ∨ K b)) (hR : RAt w B rb P y t) (hD : ∀ b, K b → ¬ y.foot rb b) (hu : RUpd w B rb P y t' w') : PairS B bb rb n P s t' K w v (.returned v) w' :=
  ⟨rfl, Pair.ref hA hR hD hu⟩
theorem q_put (h : Pair w B bb rb P n s t K) (hf : Few t) (nm : ByteArray) (a b : Int) (v : Int) (t' : St) (hr : opR t nm.data.toList a b = (v, t')) :
    Calls Tryd.prog 49 #[.pointer (some ⟨rb, 0, none⟩), .string nm, .int .i64 a, .int .i64 b] w (PairS B bb rb n P s t' K w (.int .i64 v)) := by
  obtain ⟨y, hA, hR, hD⟩ := h
  have hB := hA.env.size
  obtain ⟨f1, f2, f3, f4⟩ := hf
  unfold opR opOk at hr
  cases hc : codeOf nm.data.toList with
  | none =>
    rw [hc] at hr
    simp only [Prod.mk.injEq] at hr
    obtain ⟨rfl, rfl⟩ := hr
    refine (rput_none nm a b w _ hc).mono ?_
    rintro e w' ⟨rfl, hb⟩
    exact pairS_ref hA hR hD (RUpd.below hR hb)
  | some c =>
    rw [hc] at hr
    cases hsp : specialB c with
    | true =>
      simp only [hsp, if_true, Prod.mk.injEq] at hr
      obtain ⟨rfl, rfl⟩ := hr
      refine (rput_special nm a b w _ c hc hsp).mono ?_
      rintro e w' ⟨rfl, hb⟩
      exact pairS_ref hA hR hD (RUpd.below hR hb)
    | false =>
      cases hq : rightB c a b [] with
      | true =>
        simp only [hsp, hq, if_true, Bool.false_eq_true, if_false, Prod.mk.injEq] at hr
        obtain ⟨rfl, rfl⟩ := hr
        refine (rput_plain nm a b w B rb P y t hR hB (by omega) c hc hsp _ hq).mono ?_
        rintro e w' ⟨rfl, hu⟩
        exact pairS_ref hA hR hD hu
      | false =>
        simp only [hsp, hq, Bool.false_eq_true, if_false, Prod.mk.injEq] at hr
        obtain ⟨rfl, rfl⟩ := hr
        refine (rput_plain nm a b w B rb P y t hR hB (by omega) c hc hsp _ hq).mono ?_
        rintro e w' ⟨rfl, hu⟩
        exact pairS_ref hA hR hD hu
theorem q_begin (h : Pair w B bb rb P n s t K) (hf : Few t) (nm lab : ByteArray) (k : UInt8) (v : Int) (t' : St) (hr : openR t nm.data.toList lab k = (v, t')) :
    Calls Tryd.prog 44 #[.pointer (some ⟨rb, 0, none⟩), .string nm, .string lab, .int .u8 (k.toNat : Int)] w (PairS B bb rb n P s t' K w (.int .i64 v)) := by
  obtain ⟨y, hA, hR, hD⟩ := h
  have hB := hA.env.size
  obtain ⟨f1, f2, f3, f4⟩ := hf
  have bad : ∀ e w', e = Ending.returned (.int .i64 1) ∧ Below w.heap.size w w' → openR t nm.data.toList lab k = (1, t) → PairS B bb rb n P s t' K w (.int .i64 v) e w' := by
    rintro e w' ⟨rfl, hu⟩ hq
    rw [hq] at hr
    simp only [Prod.mk.injEq] at hr
    obtain ⟨rfl, rfl⟩ := hr
    exact pairS_ref hA hR hD (RUpd.below hR hu)
  cases hc : codeOf nm.data.toList with
  | none => exact (rbegin_none nm lab k w _ hc).mono fun e w' he => bad e w' he (by unfold openR openOk; rw [hc])
  | some c =>
    cases hb : blockB c with
    | false => exact (rbegin_other nm lab k w _ c hc hb).mono fun e w' he => bad e w' he (by unfold openR openOk; rw [hc]; simp [hb])
    | true =>
      cases hk : kindB k with
      | false => exact (rbegin_kind nm lab k w _ c hc hb hk).mono fun e w' he => bad e w' he (by unfold openR openOk; rw [hc]; simp [hk])
      | true =>
        have ho : openOk nm.data.toList k = some c := by unfold openOk; rw [hc]; simp [hb, hk]
        unfold openR at hr
        rw [ho] at hr
        by_cases hl : t.opens.length = 256
        · simp only [hl, if_true, Prod.mk.injEq] at hr
          obtain ⟨rfl, rfl⟩ := hr
          refine (rbegin_full nm lab k w B rb P y t hR c hc hb hk hl).mono ?_
          rintro e w' ⟨rfl, hu⟩
          exact pairS_ref hA hR hD (RUpd.below hR hu)
        · simp only [hl, if_false, Prod.mk.injEq] at hr
          obtain ⟨rfl, rfl⟩ := hr
          refine (rbegin_ok nm lab k w B rb P y t hR hB (by omega) (by omega) c hc hb hk hl).mono ?_
          rintro e w' ⟨rfl, hu⟩
          exact pairS_ref hA hR hD hu
theorem q_close (h : Pair w B bb rb P n s t K) (hf : Few t) (v : Int) (t' : St) (hr : closeR t = (v, t')) :
    Calls Tryd.prog 46 #[.pointer (some ⟨rb, 0, none⟩)] w (PairS B bb rb n P s t' K w (.int .i64 v)) := by
  obtain ⟨y, hA, hR, hD⟩ := h
  have hB := hA.env.size
  obtain ⟨f1, f2, f3, f4⟩ := hf
  unfold closeR at hr
  rcases List.eq_nil_or_concat t.opens with he | ⟨l, m, he⟩
  · rw [he] at hr
    simp only [List.getLast?_nil, Prod.mk.injEq] at hr
    obtain ⟨rfl, rfl⟩ := hr
    refine (rclose_empty w B rb P y t hR he).mono ?_
    rintro e w' ⟨rfl, rfl⟩
    exact pairS_ref hA hR hD (RUpd.same hR)
  · rw [List.concat_eq_append] at he
    rw [he] at hr
    rw [show (l ++ [m]).getLast? = some m by simp, show (l ++ [m]).dropLast = l by simp] at hr
    simp only [Prod.mk.injEq] at hr
    obtain ⟨rfl, rfl⟩ := hr
    refine (rclose_ok w B rb P y t hR hB (by omega) (by omega) l m he).mono ?_
    rintro e w' ⟨rfl, hu⟩
    exact pairS_ref hA hR hD hu
theorem q_else (h : Pair w B bb rb P n s t K) (hf : Few t) (v : Int) (t' : St) (hr : elseR t = (v, t')) :
    Calls Tryd.prog 45 #[.pointer (some ⟨rb, 0, none⟩)] w (PairS B bb rb n P s t' K w (.int .i64 v)) := by
  obtain ⟨y, hA, hR, hD⟩ := h
  have hB := hA.env.size
  obtain ⟨f1, f2, f3, f4⟩ := hf
  unfold elseR at hr
  rcases List.eq_nil_or_concat t.opens with he | ⟨l, ⟨mc, ml⟩, he⟩
  · rw [he] at hr
    simp only [List.getLast?_nil, Prod.mk.injEq] at hr
    obtain ⟨rfl, rfl⟩ := hr
    refine (relse_empty w B rb P y t hR he).mono ?_
    rintro e w' ⟨rfl, rfl⟩
    exact pairS_ref hA hR hD (RUpd.same hR)
  · rw [List.concat_eq_append] at he
    rw [he] at hr
    rw [show (l ++ [(⟨mc, ml⟩ : Mk)]).getLast? = some ⟨mc, ml⟩ by simp, show (l ++ [(⟨mc, ml⟩ : Mk)]).dropLast = l by simp] at hr
    by_cases hm : mc = 4
    · subst hm
      simp only [if_true, Prod.mk.injEq] at hr
      obtain ⟨rfl, rfl⟩ := hr
      refine (relse_ok w B rb P y t hR hB (by omega) (by omega) l ml he).mono ?_
      rintro e w' ⟨rfl, hu⟩
      exact pairS_ref hA hR hD hu
    · simp only [hm, if_false, Prod.mk.injEq] at hr
      obtain ⟨rfl, rfl⟩ := hr
      refine (relse_bad w B rb P y t hR (by omega) l ⟨mc, ml⟩ he (bne_iff_ne.2 hm)).mono ?_
      rintro e w' ⟨rfl, rfl⟩
      exact pairS_ref hA hR hD (RUpd.same hR)
theorem q_go (h : Pair w B bb rb P n s t K) (hf : Few t) (nm lab : ByteArray) (v : Int) (t' : St) (hr : goR t nm.data.toList lab.data.toList = (v, t')) :
    Calls Tryd.prog 47 #[.pointer (some ⟨rb, 0, none⟩), .string nm, .string lab] w (PairS B bb rb n P s t' K w (.int .i64 v)) := by
  obtain ⟨y, hA, hR, hD⟩ := h
  have hB := hA.env.size
  obtain ⟨f1, f2, f3, f4⟩ := hf
  unfold goR at hr
  cases hc : goCode nm.data.toList with
  | none =>
    rw [hc] at hr
    simp only [Prod.mk.injEq] at hr
    obtain ⟨rfl, rfl⟩ := hr
    refine (rgo_no nm lab _ w hc).mono ?_
    rintro e w' ⟨rfl, rfl⟩
    exact pairS_ref hA hR hD (RUpd.same hR)
  | some c =>
    rw [hc] at hr
    cases hl : labN lab.data.toList t.opens with
    | none =>
      rw [hl] at hr
      simp only [Prod.mk.injEq] at hr
      obtain ⟨rfl, rfl⟩ := hr
      refine (rgo_some nm lab w B rb P y t hR hB (by omega) (by omega) c hc _ hl).mono ?_
      rintro e w' ⟨rfl, hu⟩
      exact pairS_ref hA hR hD hu
    | some k =>
      rw [hl] at hr
      simp only [Prod.mk.injEq] at hr
      obtain ⟨rfl, rfl⟩ := hr
      refine (rgo_some nm lab w B rb P y t hR hB (by omega) (by omega) c hc _ hl).mono ?_
      rintro e w' ⟨rfl, hu⟩
      exact pairS_ref hA hR hD hu
theorem q_local (h : Pair w B bb rb P n s t K) (hf : Few t) (k : UInt8) (v e1 : Int) (t' : St) (hr : localR t k = (v, e1, t')) :
    Calls Tryd.prog 48 #[.pointer (some ⟨rb, 0, none⟩), .int .u8 (k.toNat : Int)] w (PairS B bb rb n P s t' K w (.tuple #[.int .i64 v, .int .i64 e1])) := by
  obtain ⟨y, hA, hR, hD⟩ := h
  obtain ⟨f1, f2, f3, f4⟩ := hf
  unfold localR at hr
  cases hk : (k == 127 || k == 126) with
  | false =>
    rw [if_pos hk] at hr
    simp only [Prod.mk.injEq] at hr
    obtain ⟨rfl, rfl, rfl⟩ := hr
    refine (rlocal_bad k w _ hk).mono ?_
    rintro e w' ⟨rfl, rfl⟩
    exact pairS_ref hA hR hD (RUpd.same hR)
  | true =>
    rw [if_neg (by rw [hk]; decide)] at hr
    by_cases hl : t.locals.length = 4000
    · rw [if_pos hl] at hr
      simp only [Prod.mk.injEq] at hr
      obtain ⟨rfl, rfl, rfl⟩ := hr
      refine (rlocal_full k w B rb P y t hR hl hk).mono ?_
      rintro e w' ⟨rfl, rfl⟩
      exact pairS_ref hA hR hD (RUpd.same hR)
    · rw [if_neg hl] at hr
      simp only [Prod.mk.injEq] at hr
      obtain ⟨rfl, rfl, rfl⟩ := hr
      refine (rlocal_ok k w B rb P y t hR (by omega) f3 hk).mono ?_
      rintro e w' ⟨rfl, hu⟩
      exact pairS_ref hA hR hD hu
end
end Go.Proofs.YtlbgbpgjccbbjaaDoor.Asm
