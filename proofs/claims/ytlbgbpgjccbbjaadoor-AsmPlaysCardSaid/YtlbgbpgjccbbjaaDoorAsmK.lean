/-
  Package asm's methods, each with what it answers and what the Builder then holds; other blocks stay. No condition beyond what each theorem names.
-/
import Derived.Test.YtlbgbpgjccbbjaaDoorAsmH
namespace Go.Proofs.YtlbgbpgjccbbjaaDoor.Asm
open Go.RowKit Go.Maps Go.Proofs.YtlbgbpgjccbbjaaDoor.Op
set_option linter.unusedVariables false
/-- the Builder at bb, and blocks K that are none of its own -/
def AtK (w : World) (B bb n : Nat) (s : St) (K : Nat → Prop) : Prop := ∃ x, BAt w B bb x n s ∧ Env B w ∧ (∀ b, K b → b < w.heap.size ∧ ¬ x.foot bb b) ∧ s.opens.length ≤ 256 ∧ s.locals.length ≤ 4000 ∧ s.params ≤ 64 ∧ s.code.length ≤ n
def Same (B : Nat) (K : Nat → Prop) (w w' : World) : Prop := Below B w w' ∧ ∀ b, K b → w'.heap[b]? = w.heap[b]?
theorem AtK.lt {w : World} {B bb n : Nat} {s : St} {K : Nat → Prop} (h : AtK w B bb n s K) : ∀ b, K b → b < w.heap.size := by
  obtain ⟨x, _, _, h3, _⟩ := h
  exact fun b hb => (h3 b hb).1
theorem AtK.env {w : World} {B bb n : Nat} {s : St} {K : Nat → Prop} (h : AtK w B bb n s K) : Env B w := by
  obtain ⟨x, _, h2, _⟩ := h
  exact h2
theorem AtK.sub {w : World} {B bb n : Nat} {s : St} {K K' : Nat → Prop} (h : AtK w B bb n s K) (hK : ∀ b, K' b → K b) : AtK w B bb n s K' := by
  obtain ⟨x, h1, h2, h3, h4⟩ := h
  exact ⟨x, h1, h2, fun b hb => h3 b (hK b hb), h4⟩
theorem AtK.mono {w : World} {B bb n n' : Nat} {s : St} {K : Nat → Prop} (h : AtK w B bb n s K) (hn : n ≤ n') : AtK w B bb n' s K := by
  obtain ⟨x, h1, h2, h3, h4, h5, h6, h7⟩ := h
  exact ⟨x, h1.mono hn, h2, h3, h4, h5, h6, by omega⟩
theorem AtK.later {w w' : World} {B bb n : Nat} {s : St} {K : Nat → Prop} (h : AtK w B bb n s K) (hb : Below w.heap.size w w') : AtK w' B bb n s K := by
  obtain ⟨x, h1, h2, h3, h4⟩ := h
  exact ⟨x, h1.later hb, h2.below hb, fun b hb' => ⟨Nat.lt_of_lt_of_le (h3 b hb').1 hb.size, (h3 b hb').2⟩, h4⟩
theorem AtK.alloc {w : World} {B bb n : Nat} {s : St} {K : Nat → Prop} (h : AtK w B bb n s K) (o : Obj) : AtK (w.alloc o) B bb n s (fun b => K b ∨ b = w.heap.size) := by
  have hb : Below w.heap.size w (w.alloc o) := (Below.refl _ _).alloc (Nat.le_refl _) o
  obtain ⟨x, h1, h2, h3, h4⟩ := h
  refine ⟨x, h1.later hb, h2.below hb, fun b hb' => ?_, h4⟩
  rcases hb' with hb' | rfl
  · exact ⟨Nat.lt_of_lt_of_le (h3 b hb').1 hb.size, (h3 b hb').2⟩
  · exact ⟨by simp, fun hf => Nat.lt_irrefl _ (h1.foot_lt _ hf).2⟩
theorem Same.refl (B : Nat) (K : Nat → Prop) (w : World) : Same B K w w := ⟨Below.refl _ _, fun _ _ => rfl⟩
theorem Same.trans {B : Nat} {K : Nat → Prop} {a b c : World} (h : Same B K a b) (h' : Same B K b c) : Same B K a c := ⟨h.1.trans h'.1, fun k hk => (h'.2 k hk).trans (h.2 k hk)⟩
theorem Same.sub {B : Nat} {K K' : Nat → Prop} {a b : World} (h : Same B K a b) (hK : ∀ b, K' b → K b) : Same B K' a b := ⟨h.1, fun k hk => h.2 k (hK k hk)⟩
theorem Same.cell {B : Nat} {K : Nat → Prop} {w w' : World} (h : Same B K w w') {b j : Nat} {v : Value} (hb : K b) (hc : w.cell? ⟨b, j, none⟩ = some v) : w'.cell? ⟨b, j, none⟩ = some v :=
  (World.cell?_of_block (a := ⟨b, j, none⟩) (h.2 b hb)).trans hc
theorem Same.below {B : Nat} {K : Nat → Prop} {w w' : World} (h : Below w.heap.size w w') (hB : B ≤ w.heap.size) (hK : ∀ b, K b → b < w.heap.size) : Same B K w w' := ⟨h.mono hB, fun k hk => h.block k (hK k hk)⟩
def Fits (n : Nat) (s : St) : Prop := s.opens.length ≤ 256 ∧ s.locals.length ≤ 4000 ∧ s.params ≤ 64 ∧ s.code.length ≤ n
theorem upd_at {w w' : World} {B bb n n' : Nat} {x : Bx} {s s' : St} {K : Nat → Prop} (h1 : BAt w B bb x n s) (h2 : Env B w) (h3 : ∀ b, K b → b < w.heap.size ∧ ¬ x.foot bb b) (hf : Fits n' s') (u : Upd w B bb x n' s' w') : AtK w' B bb n' s' K ∧ Same B K w w' := by
  have hE := h2.upd h1 u
  have hbl := Upd.from_base h1 h2.size u
  obtain ⟨x', g1, g2, g3⟩ := u
  refine ⟨⟨x', g1, hE, fun b hb => ⟨Nat.lt_of_lt_of_le (h3 b hb).1 g3.size, fun hx => ?_⟩, hf⟩, hbl, fun b hb => g3.block b (h3 b hb).1 (h3 b hb).2⟩
  rcases g2 b hx with h | h
  · exact (h3 b hb).2 h
  · have := (h3 b hb).1; omega
def opR (s : St) (nm : List UInt8) (a b : Int) : Int × St := match opOk nm a b with
  | some c => (0, { s with code := s.code ++ [⟨c, a, b⟩] })
  | none => (1, s)
theorem k_op {w : World} {B bb n : Nat} {s : St} {K : Nat → Prop} (h : AtK w B bb n s K) (hn : n < 500000) (nm : ByteArray) (a b : Int) (hs : nm.size ≤ maxLen) (v : Int) (s' : St) (hr : opR s nm.data.toList a b = (v, s')) :
    Calls Tryd.prog 34 #[.pointer (some ⟨bb, 0, none⟩), .string nm, .int .i64 a, .int .i64 b] w fun e w' => e = .returned (.int .i64 v) ∧ AtK w' B bb (n + 1) s' K ∧ Same B K w w' := by
  obtain ⟨x, h1, h2, h3, f1, f2, f3, f4⟩ := h
  unfold opR at hr
  refine (op_any nm a b w B bb x n s h1 h2 (by omega) (by omega) hs _ rfl).mono ?_
  rintro e w' ⟨rfl, hu⟩
  cases ho : opOk nm.data.toList a b with
  | none =>
    rw [ho] at hr hu
    simp only [Prod.mk.injEq] at hr
    obtain ⟨rfl, rfl⟩ := hr
    exact ⟨rfl, upd_at h1 h2 h3 ⟨f1, f2, f3, by omega⟩ hu⟩
  | some c =>
    rw [ho] at hr hu
    simp only [Prod.mk.injEq] at hr
    obtain ⟨rfl, rfl⟩ := hr
    exact ⟨rfl, upd_at h1 h2 h3 ⟨f1, f2, f3, by simp; omega⟩ hu⟩
def openR (s : St) (nm : List UInt8) (lab : ByteArray) (k : UInt8) : Int × St := match openOk nm k with
  | none => (1, s)
  | some c => if s.opens.length = 256 then (5, s) else (0, { s with code := s.code ++ [⟨c, k.toNat, 0⟩], opens := s.opens ++ [⟨c, lab⟩] })
theorem k_open {w : World} {B bb n : Nat} {s : St} {K : Nat → Prop} (h : AtK w B bb n s K) (hn : n < 500000) (nm lab : ByteArray) (k : UInt8) (hs : nm.size ≤ maxLen) (v : Int) (s' : St) (hr : openR s nm.data.toList lab k = (v, s')) :
    Calls Tryd.prog 26 #[.pointer (some ⟨bb, 0, none⟩), .string nm, .string lab, .int .u8 (k.toNat : Int)] w fun e w' => e = .returned (.int .i64 v) ∧ AtK w' B bb (n + 1) s' K ∧ Same B K w w' := by
  obtain ⟨x, h1, h2, h3, f1, f2, f3, f4⟩ := h
  have bad : ∀ e w', e = Ending.returned (.int .i64 1) ∧ Upd w B bb x (n + 1) s w' → openR s nm.data.toList lab k = (1, s) → e = Ending.returned (.int .i64 v) ∧ AtK w' B bb (n + 1) s' K ∧ Same B K w w' := by
    rintro e w' ⟨rfl, hu⟩ hq
    rw [hq] at hr
    simp only [Prod.mk.injEq] at hr
    obtain ⟨rfl, rfl⟩ := hr
    exact ⟨rfl, upd_at h1 h2 h3 ⟨f1, f2, f3, by omega⟩ hu⟩
  cases hc : codeOf nm.data.toList with
  | none => exact (open_none nm lab k w B bb x n s h1 h2 (by omega) hs hc).mono fun e w' he => bad e w' he (by unfold openR openOk; rw [hc])
  | some c =>
    cases hb : blockB c with
    | false => exact (open_other nm lab k w B bb x n s h1 h2 (by omega) hs c hc hb).mono fun e w' he => bad e w' he (by unfold openR openOk; rw [hc]; simp [hb])
    | true =>
      cases hk : kindB k with
      | false => exact (open_kind nm lab k w B bb x n s h1 h2 (by omega) hs c hc hb hk).mono fun e w' he => bad e w' he (by unfold openR openOk; rw [hc]; simp [hk])
      | true =>
        have ho : openOk nm.data.toList k = some c := by unfold openOk; rw [hc]; simp [hb, hk]
        unfold openR at hr
        rw [ho] at hr
        by_cases hl : s.opens.length = 256
        · simp only [hl, if_true, Prod.mk.injEq] at hr
          obtain ⟨rfl, rfl⟩ := hr
          refine (open_full nm lab k w B bb x n s h1 h2 (by omega) hs c hc hb hk hl).mono ?_
          rintro e w' ⟨rfl, hu⟩
          exact ⟨rfl, upd_at h1 h2 h3 ⟨f1, f2, f3, by omega⟩ hu⟩
        · simp only [hl, if_false, Prod.mk.injEq] at hr
          obtain ⟨rfl, rfl⟩ := hr
          refine (open_ok nm lab k w B bb x n s h1 h2 (by omega) (by omega) hs c hc hb hk (by omega)).mono ?_
          rintro e w' ⟨rfl, hu⟩
          exact ⟨rfl, upd_at h1 h2 h3 ⟨by simp; omega, f2, f3, by simp; omega⟩ hu⟩
def closeR (s : St) : Int × St := match s.opens.getLast? with
  | none => (1, s)
  | some _ => (0, { s with code := s.code ++ [⟨11, 0, 0⟩], opens := s.opens.dropLast })
theorem k_close {w : World} {B bb n : Nat} {s : St} {K : Nat → Prop} (h : AtK w B bb n s K) (hn : n < 500000) (v : Int) (s' : St) (hr : closeR s = (v, s')) :
    Calls Tryd.prog 28 #[.pointer (some ⟨bb, 0, none⟩)] w fun e w' => e = .returned (.int .i64 v) ∧ AtK w' B bb (n + 1) s' K ∧ Same B K w w' := by
  have h0 := h
  obtain ⟨x, h1, h2, h3, f1, f2, f3, f4⟩ := h
  unfold closeR at hr
  rcases List.eq_nil_or_concat s.opens with he | ⟨l, m, he⟩
  · rw [he] at hr
    simp only [List.getLast?_nil, Prod.mk.injEq] at hr
    obtain ⟨rfl, rfl⟩ := hr
    refine (close_empty w B bb x n s h1 he).mono ?_
    rintro e w' ⟨rfl, rfl⟩
    exact ⟨rfl, h0.mono (by omega), Same.refl _ _ _⟩
  · rw [List.concat_eq_append] at he
    rw [he] at hr
    rw [show (l ++ [m]).getLast? = some m by simp, show (l ++ [m]).dropLast = l by simp] at hr
    simp only [Prod.mk.injEq] at hr
    obtain ⟨rfl, rfl⟩ := hr
    refine (close_ok w B bb x n s h1 h2.size (by omega) (by omega) l m he).mono ?_
    rintro e w' ⟨rfl, u1, u2, u3, u4⟩
    have hl : s.opens.length = l.length + 1 := by rw [he]; simp
    exact ⟨rfl, upd_at h1 h2 h3 ⟨by simp; omega, f2, f3, by simp; omega⟩ ⟨u1, u2.mono (by omega), u3, u4⟩⟩
def elseR (s : St) : Int × St := match s.opens.getLast? with
  | none => (1, s)
  | some m => if m.code = 4 then (0, { s with code := s.code ++ [⟨5, 0, 0⟩], opens := s.opens.dropLast ++ [⟨5, m.label⟩] }) else (1, s)
theorem k_else {w : World} {B bb n : Nat} {s : St} {K : Nat → Prop} (h : AtK w B bb n s K) (hn : n < 500000) (v : Int) (s' : St) (hr : elseR s = (v, s')) :
    Calls Tryd.prog 29 #[.pointer (some ⟨bb, 0, none⟩)] w fun e w' => e = .returned (.int .i64 v) ∧ AtK w' B bb (n + 1) s' K ∧ Same B K w w' := by
  have h0 := h
  obtain ⟨x, h1, h2, h3, f1, f2, f3, f4⟩ := h
  unfold elseR at hr
  rcases List.eq_nil_or_concat s.opens with he | ⟨l, ⟨mc, ml⟩, he⟩
  · rw [he] at hr
    simp only [List.getLast?_nil, Prod.mk.injEq] at hr
    obtain ⟨rfl, rfl⟩ := hr
    refine (else_empty w B bb x n s h1 he).mono ?_
    rintro e w' ⟨rfl, rfl⟩
    exact ⟨rfl, h0.mono (by omega), Same.refl _ _ _⟩
  · rw [List.concat_eq_append] at he
    rw [he] at hr
    rw [show (l ++ [(⟨mc, ml⟩ : Mk)]).getLast? = some ⟨mc, ml⟩ by simp, show (l ++ [(⟨mc, ml⟩ : Mk)]).dropLast = l by simp] at hr
    have hl : s.opens.length = l.length + 1 := by rw [he]; simp
    by_cases hm : mc = 4
    · subst hm
      simp only [if_true, Prod.mk.injEq] at hr
      obtain ⟨rfl, rfl⟩ := hr
      refine (else_ok w B bb x n s h1 h2.size (by omega) (by omega) l ml he).mono ?_
      rintro e w' ⟨rfl, u1, u2, u3, u4⟩
      exact ⟨rfl, upd_at h1 h2 h3 ⟨by simp; omega, f2, f3, by simp; omega⟩ ⟨u1, u2.mono (by omega), u3, u4⟩⟩
    · simp only [hm, if_false, Prod.mk.injEq] at hr
      obtain ⟨rfl, rfl⟩ := hr
      refine (else_bad w B bb x n s h1 (by omega) l ⟨mc, ml⟩ he (bne_iff_ne.2 hm)).mono ?_
      rintro e w' ⟨rfl, rfl⟩
      exact ⟨rfl, h0.mono (by omega), Same.refl _ _ _⟩
def goR (s : St) (nm lab : List UInt8) : Int × St := match goCode nm with
  | none => (1, s)
  | some c => match labN lab s.opens with
    | some k => (0, { s with code := s.code ++ [⟨c, k, 0⟩] })
    | none => (13, s)
theorem k_go {w : World} {B bb n : Nat} {s : St} {K : Nat → Prop} (h : AtK w B bb n s K) (hn : n < 500000) (nm lab : ByteArray) (hs : nm.size ≤ maxLen) (v : Int) (s' : St) (hr : goR s nm.data.toList lab.data.toList = (v, s')) :
    Calls Tryd.prog 27 #[.pointer (some ⟨bb, 0, none⟩), .string nm, .string lab] w fun e w' => e = .returned (.int .i64 v) ∧ AtK w' B bb (n + 1) s' K ∧ Same B K w w' := by
  have h0 := h
  obtain ⟨x, h1, h2, h3, f1, f2, f3, f4⟩ := h
  unfold goR at hr
  cases hc : goCode nm.data.toList with
  | none =>
    rw [hc] at hr
    simp only [Prod.mk.injEq] at hr
    obtain ⟨rfl, rfl⟩ := hr
    refine (go_no nm lab _ w hs hc).mono ?_
    rintro e w' ⟨rfl, hb⟩
    exact ⟨rfl, (h0.later hb).mono (by omega), Same.below hb h0.env.size h0.lt⟩
  | some c =>
    rw [hc] at hr
    cases hl : labN lab.data.toList s.opens with
    | none =>
      rw [hl] at hr
      simp only [Prod.mk.injEq] at hr
      obtain ⟨rfl, rfl⟩ := hr
      refine (go_some nm lab w B bb x n s h1 h2.size (by omega) (by omega) hs c hc _ hl).mono ?_
      rintro e w' ⟨rfl, u1, u2, u3, u4⟩
      exact ⟨rfl, upd_at h1 h2 h3 ⟨f1, f2, f3, Nat.le_trans f4 (Nat.le_succ n)⟩ ⟨u1, u2.mono (by omega), u3, u4⟩⟩
    | some k =>
      rw [hl] at hr
      simp only [Prod.mk.injEq] at hr
      obtain ⟨rfl, rfl⟩ := hr
      refine (go_some nm lab w B bb x n s h1 h2.size (by omega) (by omega) hs c hc _ hl).mono ?_
      rintro e w' ⟨rfl, u1, u2, u3, u4⟩
      exact ⟨rfl, upd_at h1 h2 h3 ⟨f1, f2, f3, by simp; omega⟩ ⟨u1, u2.mono (by omega), u3, u4⟩⟩
def localR (s : St) (k : UInt8) : Int × Int × St := if (k == 127 || k == 126) = false then (0, 1, s) else if s.locals.length = 4000 then (0, 5, s) else (((s.params + s.locals.length : Nat) : Int), 0, { s with locals := s.locals ++ [k] })
theorem k_local {w : World} {B bb n : Nat} {s : St} {K : Nat → Prop} (h : AtK w B bb n s K) (hn : n < 500000) (k : UInt8) (v e1 : Int) (s' : St) (hr : localR s k = (v, e1, s')) :
    Calls Tryd.prog 24 #[.pointer (some ⟨bb, 0, none⟩), .int .u8 (k.toNat : Int)] w fun e w' => e = .returned (.tuple #[.int .i64 v, .int .i64 e1]) ∧ AtK w' B bb (n + 1) s' K ∧ Same B K w w' := by
  have h0 := h
  obtain ⟨x, h1, h2, h3, f1, f2, f3, f4⟩ := h
  unfold localR at hr
  cases hk : (k == 127 || k == 126) with
  | false =>
    rw [if_pos hk] at hr
    simp only [Prod.mk.injEq] at hr
    obtain ⟨rfl, rfl, rfl⟩ := hr
    refine (local_bad k w _ hk).mono ?_
    rintro e w' ⟨rfl, rfl⟩
    exact ⟨rfl, h0.mono (by omega), Same.refl _ _ _⟩
  | true =>
    rw [if_neg (by rw [hk]; decide)] at hr
    by_cases hl : s.locals.length = 4000
    · rw [if_pos hl] at hr
      simp only [Prod.mk.injEq] at hr
      obtain ⟨rfl, rfl, rfl⟩ := hr
      refine (local_full k w B bb x n s h1 hl hk).mono ?_
      rintro e w' ⟨rfl, rfl⟩
      exact ⟨rfl, h0.mono (by omega), Same.refl _ _ _⟩
    · rw [if_neg hl] at hr
      simp only [Prod.mk.injEq] at hr
      obtain ⟨rfl, rfl, rfl⟩ := hr
      refine (local_ok k w B bb x n s h1 h2.size (by omega) f3 hk).mono ?_
      rintro e w' ⟨rfl, u1, u2, u3, u4⟩
      exact ⟨rfl, upd_at h1 h2 h3 ⟨f1, by simp; omega, f3, Nat.le_trans f4 (Nat.le_succ n)⟩ ⟨u1, u2.mono (by omega), u3, u4⟩⟩
theorem k_nest {w : World} {B bb n : Nat} {s : St} {K : Nat → Prop} (h : AtK w B bb n s K) : Calls Tryd.prog 32 #[.pointer (some ⟨bb, 0, none⟩)] w fun e w' => e = .returned (.int .i64 s.opens.length) ∧ w = w' := by
  obtain ⟨x, h1, _⟩ := h
  exact nest_any w B bb x n s h1
/-- what Done answers, the Builder as it was -/
def MadeD (w : World) (B bb n : Nat) (s : St) (K : Nat → Prop) (kd : Int) (e : Ending) (w' : World) : Prop := ∃ g cap, e = .returned (.tuple #[.agg #[.int .i64 kd, .string ⟨s.locals.toArray⟩, .slice (some ⟨g, 0, none⟩) (s.code.length + 1) cap], .int .i64 0]) ∧ w'.ownsRow w.heap.size 36 4 (.slice (some ⟨g, 0, none⟩) (s.code.length + 1) cap) (s.code.length + 1) (codeV (s.code ++ [⟨11, 0, 0⟩])) ∧ AtK w' B bb n s (fun b => K b ∨ b = g) ∧ Below w.heap.size w w'
theorem k_done {w : World} {B bb n : Nat} {s : St} {K : Nat → Prop} (h : AtK w B bb n s K) (hn : n < 500000) (kd : Int) (h0 : s.opens = []) (hk0 : 0 ≤ kd) (hk1 : kd < 4294967296) :
    Calls Tryd.prog 25 #[.pointer (some ⟨bb, 0, none⟩), .int .i64 kd] w (MadeD w B bb n s K kd) := by
  obtain ⟨x, h1, h2, h3, f1, f2, f3, f4⟩ := h
  refine (done_ok kd w B bb x n s h1 h0 (by omega) hk0 hk1).mono ?_
  rintro e w' ⟨g, cap, rfl, ho, hb⟩
  have hg := ho.lt g rfl
  refine ⟨g, cap, rfl, ho, ⟨x, h1.later hb, h2.below hb, fun b hb' => ?_, f1, f2, f3, f4⟩, hb⟩
  rcases hb' with hb' | rfl
  · exact ⟨Nat.lt_of_lt_of_le (h3 b hb').1 hb.size, (h3 b hb').2⟩
  · exact ⟨hg.2, fun hf => by have := (h1.foot_lt _ hf).2; omega⟩
/-- a new one -/
def MadeN (w : World) (p : Nat) (K : Nat → Prop) (e : Ending) (w' : World) : Prop := ∃ bb, e = .returned (.tuple #[.pointer (some ⟨bb, 0, none⟩), .int .i64 0]) ∧ w.heap.size ≤ bb ∧ (∀ B, Env B w → AtK w' B bb 0 ⟨p, [], [], []⟩ K) ∧ Below w.heap.size w w'
theorem k_new (params : ByteArray) (w : World) (K : Nat → Prop) (hK : ∀ b, K b → b < w.heap.size) (h : newOk params.data.toList = true) :
    Calls Tryd.prog 23 #[.string params] w (MadeN w params.size K) := by
  have hl := (newOk_trim h).1
  rw [Array.length_toList] at hl
  refine (new_ok params w h).mono ?_
  rintro e w' ⟨bb, x, rfl, hA, hb⟩
  refine ⟨bb, rfl, hA.low, fun B hE => ⟨x, hA.base hE.size, hE.below hb, fun b hb' => ⟨Nat.lt_of_lt_of_le (hK b hb') hb.size, fun hf => ?_⟩, by simp, by simp, hl, by simp⟩, hb⟩
  have := (hA.foot_lt b hf).1
  have := hK b hb'
  omega
end Go.Proofs.YtlbgbpgjccbbjaaDoor.Asm
