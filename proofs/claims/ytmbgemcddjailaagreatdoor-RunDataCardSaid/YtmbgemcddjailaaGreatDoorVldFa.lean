/-
  VldP, VldQ, VldR in one.
-/
import Derived.Test.YtmbgemcddjailaaGreatDoorVldEa
import Derived.Test.YtmbgemcddjailaaGreatDoorPgNil
/- VldP: What a step leaves: the blocks' heights, their results, how many stand there. Plain but for the names of the walks' texts. -/
namespace Go.Proofs.YtmbgemcddjailaaGreatDoor.Vld
open Go.RowKit Go.Maps Go.Proofs.YtmbgemcddjailaaGreatDoor.Op Go.Proofs.YtmbgemcddjailaaGreatDoor.Mod
set_option linter.unusedVariables false
def Hts : List Fr → Nat → Prop
  | [], _ => True
  | f :: r, n => f.height ≤ n ∧ Hts r f.height
theorem Hts.mono : ∀ {l : List Fr} {n m : Nat}, Hts l n → n ≤ m → Hts l m
  | [], _, _, _, _ => trivial
  | _ :: _, _, _, h, hm => ⟨Nat.le_trans h.1 hm, h.2⟩
structure CInv (c : Ck) (N : Nat) : Prop where
  hts : Hts c.frames.reverse c.stack.length
  thin : Thin c
  st : c.stack.length ≤ N
  fr : c.frames.length ≤ N + 1
theorem CInv.mono {c : Ck} {N M : Nat} (h : CInv c N) (hm : N ≤ M) : CInv c M := ⟨h.hts, h.thin, Nat.le_trans h.st hm, Nat.le_trans h.fr (by omega)⟩
theorem CInv.top {c : Ck} {N : Nat} (h : CInv c N) {l0 : List Fr} {f : Fr} (hs : c.frames = l0 ++ [f]) : f.height ≤ c.stack.length := by
  have := h.hts
  rw [hs, List.reverse_append] at this
  exact this.1
theorem CInv.few {c : Ck} {N : Nat} (h : CInv c N) {l0 : List Fr} {f : Fr} (hs : c.frames = l0 ++ [f]) (hN : N ≤ 1000000000) : Few c l0 f :=
  ⟨hs, h.top hs, by have := h.st; omega, by have := h.fr; omega⟩
theorem CInv.less {c c' : Ck} {N : Nat} (h : CInv c N) {l0 : List Fr} {f : Fr} (hs : c.frames = l0 ++ [f]) (l : Less c c' f) : CInv c' N := by
  refine ⟨?_, h.thin.of l.frames, Nat.le_trans l.length h.st, by rw [l.frames]; exact h.fr⟩
  have := h.hts
  rw [l.frames]
  rw [hs, List.reverse_append] at this ⊢
  exact ⟨l.height, this.2⟩
theorem CInv.same {c c' : Ck} {N : Nat} (h : CInv c N) (hs : c'.frames = c.frames ∧ c'.stack = c.stack) : CInv c' N :=
  ⟨by rw [hs.1, hs.2]; exact h.hts, h.thin.of hs.1, by rw [hs.2]; exact h.st, by rw [hs.1]; exact h.fr⟩
theorem CInv.put {c : Ck} {N : Nat} (h : CInv c N) {l : List UInt8} (hl : l.length ≤ 1) : CInv (putC l c) (N + 1) :=
  ⟨h.hts.mono (by simp [putC]), h.thin, by have := h.st; simp [putC]; omega, by have := h.fr; show c.frames.length ≤ _; omega⟩
theorem CInv.want {c : Ck} {N : Nat} (h : CInv c N) (b : Bool) : CInv (wantC c b) N := ⟨h.hts, h.thin, h.st, h.fr⟩
theorem CInv.take {c : Ck} {N : Nat} (h : CInv c N) {l0 : List Fr} {f : Fr} (hs : c.frames = l0 ++ [f]) (ts : List UInt8) : CInv (takeC ts c) N ∧ (takeC ts c).frames = c.frames :=
  ⟨h.less hs (.take ts hs (h.top hs)), (Less.take ts hs (h.top hs)).frames⟩
theorem CInv.kill {c : Ck} {N : Nat} (h : CInv c N) {l0 : List Fr} {f : Fr} (hs : c.frames = l0 ++ [f]) : CInv (killC c) N ∧ (killC c).frames.length = c.frames.length := by
  have ht := h.top hs
  rw [kill_eq hs]
  refine ⟨⟨?_, ?_, ?_, ?_⟩, by simp [hs]⟩
  · have := h.hts
    rw [hs, List.reverse_append] at this
    show Hts (l0 ++ [{ f with dead := true }]).reverse (c.stack.take f.height).length
    rw [List.reverse_append, List.length_take]
    exact ⟨by show f.height ≤ _; omega, this.2⟩
  · intro g hg
    rcases List.mem_append.1 (show g ∈ l0 ++ [{ f with dead := true }] from hg) with h1 | h1
    · exact h.thin g (by rw [hs]; exact List.mem_append_left _ h1)
    · rw [List.mem_singleton.1 h1]
      exact h.thin f (by rw [hs]; simp)
  · have := h.st
    show (c.stack.take f.height).length ≤ N
    rw [List.length_take]
    omega
  · have := h.fr
    show (l0 ++ [{ f with dead := true }]).length ≤ N + 1
    rw [hs] at this
    simpa using this
theorem kindL_len (a : Int) : (kindL a).length ≤ 1 := by
  unfold kindL
  split <;> simp
theorem CInv.opens {c : Ck} {N : Nat} (h : CInv c N) (op a : Int) : CInv (openC op a c) (N + 1) ∧ (openC op a c).frames.length = c.frames.length + 1 := by
  refine ⟨⟨?_, ?_, ?_, ?_⟩, by simp [openC]⟩
  · show Hts (c.frames ++ [(⟨op, kindL a, c.stack.length, false⟩ : Fr)]).reverse c.stack.length
    rw [List.reverse_append]
    exact ⟨Nat.le_refl _, h.hts⟩
  · intro g hg
    rcases List.mem_append.1 (show g ∈ c.frames ++ [(⟨op, kindL a, c.stack.length, false⟩ : Fr)] from hg) with h1 | h1
    · exact h.thin g h1
    · rw [List.mem_singleton.1 h1]
      exact kindL_len a
  · have := h.st
    show c.stack.length ≤ N + 1
    omega
  · have := h.fr
    simp [openC]
    omega
theorem CInv.shut {c : Ck} {N : Nat} (h : CInv c N) {l0 : List Fr} {f : Fr} (hs : c.frames = l0 ++ [f]) : CInv (shutC f c) N ∧ (shutC f c).frames = c.frames ∧ (shutC f c).stack.length = f.height := by
  have h1 := Less.take f.result hs (h.top hs)
  have hst : (shutC f c).stack.length = f.height := by
    rw [shut_eq2]
    show (List.take _ _).length = _
    rw [List.length_take]
    have := h1.height
    omega
  have l1 : Less c (shutC f c) f := ⟨h1.frames, by omega, by have := h.top hs; omega⟩
  exact ⟨h.less hs l1, h1.frames, hst⟩
theorem CInv.swap {c : Ck} {N : Nat} (h : CInv c N) {l0 : List Fr} {f f' : Fr} (hs : c.frames = l0 ++ [f]) (hh : f'.height = f.height) (hr : f'.result = f.result) : CInv { c with frames := l0 ++ [f'] } N := by
  refine ⟨?_, ?_, h.st, ?_⟩
  · have := h.hts
    rw [hs, List.reverse_append] at this
    show Hts (l0 ++ [f']).reverse c.stack.length
    rw [List.reverse_append]
    exact ⟨by rw [hh]; exact this.1, by rw [hh]; exact this.2⟩
  · intro g hg
    rcases List.mem_append.1 (show g ∈ l0 ++ [f'] from hg) with h1 | h1
    · exact h.thin g (by rw [hs]; exact List.mem_append_left _ h1)
    · rw [List.mem_singleton.1 h1, hr]
      exact h.thin f (by rw [hs]; simp)
  · have := h.fr
    rw [hs] at this
    simpa using this
theorem CInv.drop {c : Ck} {N : Nat} (h : CInv c N) {l0 : List Fr} {f : Fr} (hs : c.frames = l0 ++ [f]) (hst : c.stack.length = f.height) : CInv { c with frames := l0 } N := by
  refine ⟨?_, fun g hg => h.thin g (by rw [hs]; exact List.mem_append_left _ hg), h.st, ?_⟩
  · have := h.hts
    rw [hs, List.reverse_append] at this
    show Hts l0.reverse c.stack.length
    rw [hst]
    exact this.2
  · have := h.fr
    rw [hs] at this
    simp at this
    show l0.length ≤ N + 1
    omega
/-- how many blocks a step leaves -/
def lenS (o : Int) (n : Nat) : Nat := if o = 2 ∨ o = 3 ∨ o = 4 then n + 1 else if o = 11 then n - 1 else n
theorem lenS_same {o : Int} {n : Nat} (h : o ≠ 2 ∧ o ≠ 3 ∧ o ≠ 4 ∧ o ≠ 11) : lenS o n = n := by
  unfold lenS
  rw [if_neg (by omega), if_neg (by omega)]
theorem inv_control {v : Vn} {x : InsL} {c c' : Ck} {N : Nat} (h : CInv c N) {l0 : List Fr} {f : Fr} (hs : c.frames = l0 ++ [f]) (hN : N ≤ 1000000000) (hc : controlC v x c = some c') : CInv c' (N + 1) ∧ c'.frames.length = lenS x.op c.frames.length := by
  have hlast : c.frames.getLast? = some f := by rw [hs]; simp
  have F := h.few hs hN
  unfold controlC at hc
  by_cases h0 : x.op = 0
  · rw [if_pos h0] at hc
    cases hc
    obtain ⟨h1, h2⟩ := h.kill hs
    exact ⟨h1.mono (by omega), by rw [lenS_same (by omega)]; exact h2⟩
  rw [if_neg h0] at hc
  by_cases h2 : x.op = 2 ∨ x.op = 3
  · rw [if_pos h2] at hc
    cases hc
    obtain ⟨h3, h4⟩ := h.opens x.op x.a
    exact ⟨h3, by rw [h4]; unfold lenS; rw [if_pos (by omega)]⟩
  rw [if_neg h2] at hc
  by_cases h4 : x.op = 4
  · rw [if_pos h4] at hc
    cases hc
    obtain ⟨t1, t2⟩ := h.take hs [127]
    obtain ⟨h5, h6⟩ := t1.opens 4 x.a
    exact ⟨h5, by rw [h6, t2]; unfold lenS; rw [if_pos (by omega)]⟩
  rw [if_neg h4] at hc
  by_cases h5 : x.op = 5
  · rw [if_pos h5, hlast] at hc
    obtain ⟨s1, s2, s3⟩ := h.shut hs
    have e : setTop (shutC f c).frames { f with op := 5, dead := false } = l0 ++ [{ f with op := 5, dead := false }] := by
      unfold setTop
      rw [s2, hs]
      simp
    simp only [e] at hc
    cases hc
    exact ⟨(s1.swap (f' := { f with op := 5, dead := false }) (s2.trans hs) rfl rfl).mono (by omega), by rw [lenS_same (by omega), hs]; simp⟩
  rw [if_neg h5] at hc
  by_cases h11 : x.op = 11
  · rw [if_pos h11, hlast] at hc
    obtain ⟨s1, s2, s3⟩ := h.shut hs
    have e : (wantC (shutC f c) (f.op != 4 || f.result.isEmpty)).frames.dropLast = l0 := by
      show (shutC f c).frames.dropLast = l0
      rw [s2, hs]
      simp
    simp only [e] at hc
    cases hc
    have h6 := (s1.want (f.op != 4 || f.result.isEmpty)).drop (l0 := l0) (f := f) (s2.trans hs) s3
    refine ⟨h6.put (h.thin f (by rw [hs]; simp)), ?_⟩
    show l0.length = _
    unfold lenS
    rw [if_neg (by omega), if_pos h11, hs]
    simp
  rw [if_neg h11] at hc
  by_cases h12 : x.op = 12
  · rw [if_pos h12] at hc
    cases hc
    have l1 := h.same (labelC_frames x.a.toNat c)
    have l2 : (labelC x.a.toNat c).1.frames = l0 ++ [f] := (labelC_frames x.a.toNat c).1.trans hs
    obtain ⟨t1, t2⟩ := l1.take l2 (labelC x.a.toNat c).2
    obtain ⟨k1, k2⟩ := t1.kill (t2.trans l2)
    exact ⟨k1.mono (by omega), by rw [lenS_same (by omega)]; dsimp only; rw [k2, t2, (labelC_frames _ _).1]⟩
  rw [if_neg h12] at hc
  by_cases h13 : x.op = 13
  · rw [if_pos h13] at hc
    cases hc
    obtain ⟨t1, t2⟩ := h.take hs [127]
    have hth := t1.thin.label x.a.toNat
    have l1 := t1.same (labelC_frames x.a.toNat (takeC [127] c))
    have l2 : (labelC x.a.toNat (takeC [127] c)).1.frames = l0 ++ [f] := (labelC_frames x.a.toNat _).1.trans (t2.trans hs)
    obtain ⟨t3, t4⟩ := l1.take l2 (labelC x.a.toNat (takeC [127] c)).2
    refine ⟨t3.put hth, ?_⟩
    rw [lenS_same (by omega)]
    show (takeC _ _).frames.length = _
    rw [t4, l2, hs]
  rw [if_neg h13] at hc
  by_cases h14 : x.op = 14
  · rw [if_pos h14] at hc
    cases hc
    obtain ⟨t1, t2⟩ := h.take hs [127]
    have l1 := t1.same (labelC_frames x.a.toNat (takeC [127] c))
    have l2 : (labelC x.a.toNat (takeC [127] c)).1.frames = l0 ++ [f] := (labelC_frames x.a.toNat _).1.trans (t2.trans hs)
    have hsame : ∀ (ls : List Int) (t : List UInt8) (c : Ck), (allSame ls t c).stack = c.stack := by
      intro ls
      induction ls with
      | nil => intro t c; rfl
      | cons l ls ih => intro t c; exact (ih t _).trans (labelC_frames _ c).2
    have a1 := l1.same (c' := allSame x.labels (labelC x.a.toNat (takeC [127] c)).2 (labelC x.a.toNat (takeC [127] c)).1) ⟨same_frames _ _, hsame _ _ _⟩
    have a2 := (same_frames (t := (labelC x.a.toNat (takeC [127] c)).2) x.labels (labelC x.a.toNat (takeC [127] c)).1).trans l2
    obtain ⟨t3, t4⟩ := a1.take a2 (labelC x.a.toNat (takeC [127] c)).2
    obtain ⟨k1, k2⟩ := t3.kill (t4.trans a2)
    exact ⟨k1.mono (by omega), by rw [lenS_same (by omega)]; dsimp only; rw [k2, t4, a2, hs]⟩
  rw [if_neg h14] at hc
  by_cases h15 : x.op = 15
  · rw [if_pos h15] at hc
    cases hc
    obtain ⟨t1, t2⟩ := h.take hs v.result
    obtain ⟨k1, k2⟩ := t1.kill (t2.trans hs)
    exact ⟨k1.mono (by omega), by rw [lenS_same (by omega), k2, t2]⟩
  rw [if_neg h15] at hc
  cases hc
theorem results_small {m : ModP} {n : Nat} {c : Ck} {v : Vn} (h : ∀ t ∈ v.m.types, t.params.size ≤ 1000000 ∧ t.results.size ≤ 1) : (calleeC v n c).2.results.data.toList.length ≤ 1 := by
  rw [data_len]
  unfold calleeC orBad
  split
  · rename_i t ht
    unfold calleeL at ht
    split at ht
    · cases ht
    · split at ht
      · exact (h t (List.mem_of_getElem? ht)).2
      · cases ht
  · exact Nat.zero_le _
end Go.Proofs.YtmbgemcddjailaaGreatDoor.Vld

/- VldQ: The checker's step, whatever the instruction: what it does, and what it leaves. No condition beyond what each theorem names. -/
namespace Go.Proofs.YtmbgemcddjailaaGreatDoor.Vld
open Go.RowKit Go.Maps Go.Proofs.YtmbgemcddjailaaGreatDoor.Op Go.Proofs.YtmbgemcddjailaaGreatDoor.Mod
set_option linter.unusedVariables false
theorem shapes_last : (tableL.all fun e => decide (e.1 ∈ ([0, 2, 3, 4, 5, 11, 12, 13, 14, 15, 16, 26, 27, 32, 33, 34, 35, 36] : List Int)) || decide (e.2.shape = 0 ∨ e.2.shape = 5 ∨ e.2.shape = 6 ∨ e.2.shape = 7)) = true := by kernel_rfl
theorem shape_last {op : Int} {i : Info} (hi : opInfo op = some i) (h : op ∉ ([0, 2, 3, 4, 5, 11, 12, 13, 14, 15, 16, 26, 27, 32, 33, 34, 35, 36] : List Int)) : i.shape = 0 ∨ i.shape = 5 ∨ i.shape = 6 ∨ i.shape = 7 := by
  have h1 := List.all_eq_true.1 shapes_last _ (opInfo_mem hi)
  rw [Bool.or_eq_true, decide_eq_true_iff, decide_eq_true_iff] at h1
  exact h1.resolve_left h
/-- what a step asks of the module -/
structure AskM (w : World) (B : Nat) (E : Ce) (v : Vn) : Prop where
  env : ∀ W, Below B w W → OpEnv W
  globs : ∀ W, Below B w W → GlobsAt W E.g v.m.globals
  funcs : ∀ W, Below B w W → FuncsAt W E.f v.m.funcs
  types : ∀ W, Below B w W → TypesAt W E.t v.m.types
  mem : ∃ me cap, E.me = .slice me v.m.memory.length cap
  sizes : ∀ t ∈ v.m.types, t.params.size ≤ 1000000 ∧ t.results.size ≤ 1
theorem AskM.later {w w' : World} {B : Nat} {E : Ce} {v : Vn} (h : AskM w B E v) (hb : Below B w w') : AskM w' B E v :=
  ⟨fun W hW => h.env W (hb.trans hW), fun W hW => h.globs W (hb.trans hW), fun W hW => h.funcs W (hb.trans hW), fun W hW => h.types W (hb.trans hW), h.mem, h.sizes⟩
theorem step_last {w : World} {B cb : Nat} {E : Ce} {x : Cx} {c : Ck} {k : Nat} {v : Vn} {l0 : List Fr} {f : Fr} (A : Ask w B cb E x c k v l0 f) (M : AskM w B E v) (hk : k < maxLen) (i : InsL) (lv : Value) (hr : rightB i.op i.a i.b i.labels = true) (hwf : (Lit.int .i64 i.op).wf = true) (hc : controlC v i c = none)
    (hn : i.op ≠ 16 ∧ i.op ≠ 26 ∧ i.op ≠ 27 ∧ i.op ≠ 32 ∧ i.op ≠ 33 ∧ i.op ≠ 34 ∧ i.op ≠ 35 ∧ i.op ≠ 36) :
    Calls Tryz.prog 74 #[.pointer (some ⟨cb, 0, none⟩), .agg #[.int .i64 i.op, .int .i64 i.a, .int .i64 i.b, lv]] w fun e w' => e = .returned (.tuple #[]) ∧ Upd w B cb E x (stepC v i c) (k + 1) w' := by
  obtain ⟨inf, hi, _, _, _⟩ := right_facts hr
  rw [stepC_last hc hi hn]
  have hops := control_none_ops hc
  have hsh := shape_last hi (by simp; omega)
  obtain ⟨n16, n26, n27, n32, n33, n34, n35, n36⟩ := hn
  have nb : ∀ {n : Int}, i.op ≠ n → (i.op == n) = false := fun h => beq_eq_false_iff_ne.2 h
  obtain ⟨me, cap, hme⟩ := M.mem
  obtain ⟨nm, sh, p, r⟩ := inf
  obtain ⟨op, a, b, zs⟩ := i
  dsimp only at hsh hi hc hwf ⊢
  unfold lastC
  have goal : ∀ b1 b2, (!v.m.memory.isEmpty || (sh != 5 && sh != 6)) = b1 → (sh != 5 || decide (a ≤ reachOf op)) = b2 → Calls Tryz.prog 74 #[.pointer (some ⟨cb, 0, none⟩), .agg #[.int .i64 op, .int .i64 a, .int .i64 b, lv]] w (fun e w' => e = .returned (.tuple #[]) ∧ Upd w B cb E x (putC r.data.toList (takeC p.data.toList (wantC (wantC c b1) b2))) (k + 1) w') → Calls Tryz.prog 74 #[.pointer (some ⟨cb, 0, none⟩), .agg #[.int .i64 op, .int .i64 a, .int .i64 b, lv]] w (fun e w' => e = .returned (.tuple #[]) ∧ Upd w B cb E x (putC r.data.toList (takeC p.data.toList (wantC (wantC c (!v.m.memory.isEmpty || (sh != 5 && sh != 6))) (sh != 5 || decide (a ≤ reachOf op))))) (k + 1) w') := fun b1 b2 h1 h2 h => by rw [h1, h2]; exact h
  by_cases hL : v.m.memory.length = 0
  · have hem : v.m.memory.isEmpty = true := by rw [List.isEmpty_iff]; exact List.eq_nil_of_length_eq_zero hL
    rw [hL] at hme
    rcases hsh with rfl | rfl | rfl | rfl
    · exact goal true true (by simp [hem]) (by simp) (last_n0 v op a b lv zs nm p r w B cb E x c k l0 f A hi hwf hc (nb n16) (nb n26) (nb n27) (nb n32) (nb n33) (nb n34) (nb n35) (nb n36) M.env me cap hme hk)
    · exact goal false _ (by simp [hem]) (by simp) (last_n5 v op a b lv zs nm p r w B cb E x c k l0 f A hi hwf hc (nb n16) (nb n26) (nb n27) (nb n32) (nb n33) (nb n34) (nb n35) (nb n36) M.env me cap hme hk)
    · exact goal false true (by simp [hem]) (by simp) (last_n6 v op a b lv zs nm p r w B cb E x c k l0 f A hi hwf hc (nb n16) (nb n26) (nb n27) (nb n32) (nb n33) (nb n34) (nb n35) (nb n36) M.env me cap hme hk)
    · exact goal true true (by simp [hem]) (by simp) (last_n7 v op a b lv zs nm p r w B cb E x c k l0 f A hi hwf hc (nb n16) (nb n26) (nb n27) (nb n32) (nb n33) (nb n34) (nb n35) (nb n36) M.env me cap hme hk)
  · have hem : v.m.memory.isEmpty = false := by
      rw [List.isEmpty_eq_false_iff]
      intro h
      rw [h] at hL
      exact hL rfl
    have hp : 0 < v.m.memory.length := Nat.pos_of_ne_zero hL
    rcases hsh with rfl | rfl | rfl | rfl
    · exact goal true true (by simp [hem]) (by simp) (last_m0 v op a b lv zs nm p r w B cb E x c k l0 f A hi hwf hc (nb n16) (nb n26) (nb n27) (nb n32) (nb n33) (nb n34) (nb n35) (nb n36) M.env me _ cap hme hk hp)
    · exact goal true _ (by simp [hem]) (by simp) (last_m5 v op a b lv zs nm p r w B cb E x c k l0 f A hi hwf hc (nb n16) (nb n26) (nb n27) (nb n32) (nb n33) (nb n34) (nb n35) (nb n36) M.env me _ cap hme hk hp)
    · exact goal true true (by simp [hem]) (by simp) (last_m6 v op a b lv zs nm p r w B cb E x c k l0 f A hi hwf hc (nb n16) (nb n26) (nb n27) (nb n32) (nb n33) (nb n34) (nb n35) (nb n36) M.env me _ cap hme hk hp)
    · exact goal true true (by simp [hem]) (by simp) (last_m7 v op a b lv zs nm p r w B cb E x c k l0 f A hi hwf hc (nb n16) (nb n26) (nb n27) (nb n32) (nb n33) (nb n34) (nb n35) (nb n36) M.env me _ cap hme hk hp)
set_option maxRecDepth 100000 in
set_option maxHeartbeats 2000000 in
theorem step_control {w : World} {B cb : Nat} {E : Ce} {x : Cx} {c : Ck} {k : Nat} {v : Vn} {l0 : List Fr} {f : Fr} (A : Ask w B cb E x c k v l0 f) (i : InsL) (lv : Value) (hr : rightB i.op i.a i.b i.labels = true) (hl : ∀ W, Below B w W → IntsAt W lv i.labels) {c' : Ck} (hc : controlC v i c = some c') :
    Calls Tryz.prog 74 #[.pointer (some ⟨cb, 0, none⟩), .agg #[.int .i64 i.op, .int .i64 i.a, .int .i64 i.b, lv]] w fun e w' => e = .returned (.tuple #[]) ∧ Upd w B cb E x c' k w' := by
  have b1 : Below w.heap.size w (w.alloc (.cells #[.int .i64 i.op, .int .i64 i.a, .int .i64 i.b, lv] 29)) := (Below.refl _ _).alloc (Nat.le_refl _) _
  have A1 : Ask (w.alloc (.cells #[.int .i64 i.op, .int .i64 i.a, .int .i64 i.b, lv] 29)) B cb E x c k v l0 f := ⟨A.here.later b1, Nat.le_trans A.low b1.size, A.few, A.thin, A.result, A.rsize, A.locals, A.lsize⟩
  have HC := Lib.hid (control_yes A1 i lv hr (fun W hW => hl W ((b1.mono A.low).trans hW)) hc)
  have B1 := Lib.hid b1
  clear A A1 hl hc b1 hr
  go_enter Tryz.func74, Tryz.ntmps74
  go_wp2_with fail
  refine HC.out.mono ?_
  rintro e W1 ⟨rfl, u1⟩
  have U := Lib.hid (u1.after B1.out)
  clear u1
  go_wp2_with fail
  refine bodyPost_ret (results_none rfl _ _ _) rfl ⟨rfl, ?_⟩
  exact U.out
theorem step_any {w : World} {B cb : Nat} {E : Ce} {x : Cx} {c : Ck} {k : Nat} {v : Vn} {l0 : List Fr} {f : Fr} (A : Ask w B cb E x c k v l0 f) (M : AskM w B E v) (hk : k < maxLen) (i : InsL) (lv : Value) (hr : rightB i.op i.a i.b i.labels = true) (hwf : (Lit.int .i64 i.op).wf = true) (hl : ∀ W, Below B w W → IntsAt W lv i.labels) :
    Calls Tryz.prog 74 #[.pointer (some ⟨cb, 0, none⟩), .agg #[.int .i64 i.op, .int .i64 i.a, .int .i64 i.b, lv]] w fun e w' => e = .returned (.tuple #[]) ∧ Upd w B cb E x (stepC v i c) (k + 1) w' := by
  cases hc : controlC v i c with
  | some c' =>
    have e : stepC v i c = c' := by unfold stepC; rw [hc]
    rw [e]
    exact (step_control A i lv hr hl hc).mono fun e w' h => ⟨h.1, h.2.mono (Nat.le_succ k)⟩
  | none =>
    have up : ∀ {c2 : Ck}, stepC v i c = c2 → Calls Tryz.prog 74 #[.pointer (some ⟨cb, 0, none⟩), .agg #[.int .i64 i.op, .int .i64 i.a, .int .i64 i.b, lv]] w (fun e w' => e = .returned (.tuple #[]) ∧ Upd w B cb E x c2 k w') → Calls Tryz.prog 74 #[.pointer (some ⟨cb, 0, none⟩), .agg #[.int .i64 i.op, .int .i64 i.a, .int .i64 i.b, lv]] w (fun e w' => e = .returned (.tuple #[]) ∧ Upd w B cb E x (stepC v i c) (k + 1) w') := fun he h => by
      rw [he]
      exact h.mono fun e w' h => ⟨h.1, h.2.mono (Nat.le_succ k)⟩
    obtain ⟨op, a, b, zs⟩ := i
    dsimp only at hr hwf hl hc up ⊢
    have wd : op = 16 ∨ op = 32 ∨ op = 33 ∨ op = 34 ∨ op = 35 ∨ op = 36 → ∃ n : Nat, n < 4294967296 ∧ a = (n : Int) := fun ho => by
      have := index_word hr (by omega)
      exact ⟨a.toNat, by omega, by omega⟩
    by_cases h16 : op = 16
    · obtain ⟨n, hn, rfl⟩ := wd (by omega)
      subst h16
      refine up ?_ (walk_16 v n hn 0 b lv w B cb E x c k l0 f A zs M.funcs M.types (fun t ht => ⟨(M.sizes t ht).1, by have := (M.sizes t ht).2; omega⟩))
      unfold stepC
      rw [hc]
      dsimp only
      rw [if_pos rfl, Int.toNat_natCast]
    by_cases h26 : op = 26
    · subst h26
      exact up (step_26 rfl c) (walk_26 v a b lv w B cb E x c k l0 f A zs)
    by_cases h27 : op = 27
    · subst h27
      refine up ?_ (walk_27 v a b lv w B cb E x c k l0 f A zs)
      unfold stepC
      rw [hc]
      rfl
    by_cases h32 : op = 32
    · obtain ⟨n, hn, rfl⟩ := wd (by omega)
      subst h32
      exact up (step_32 rfl c) (walk_32 v n hn 0 b lv w B cb E x c k l0 f A zs)
    by_cases h33 : op = 33
    · obtain ⟨n, hn, rfl⟩ := wd (by omega)
      subst h33
      exact up (step_33 rfl c) (walk_33 v n hn 0 b lv w B cb E x c k l0 f A zs)
    by_cases h34 : op = 34
    · obtain ⟨n, hn, rfl⟩ := wd (by omega)
      subst h34
      exact up (step_34 rfl c) (walk_34 v n hn 0 b lv w B cb E x c k l0 f A zs)
    by_cases h35 : op = 35
    · obtain ⟨n, hn, rfl⟩ := wd (by omega)
      subst h35
      exact up (step_35 rfl c) (walk_35 v n hn 0 b lv w B cb E x c k l0 f A zs M.globs)
    by_cases h36 : op = 36
    · obtain ⟨n, hn, rfl⟩ := wd (by omega)
      subst h36
      exact up (step_36 rfl c) (walk_36 v n hn 0 b lv w B cb E x c k l0 f A zs M.globs)
    exact step_last A M hk ⟨op, a, b, zs⟩ lv hr hwf hc ⟨h16, h26, h27, h32, h33, h34, h35, h36⟩
/-- what a step leaves -/
theorem step_inv {v : Vn} {i : InsL} {c : Ck} {N : Nat} (h : CInv c N) {l0 : List Fr} {f : Fr} (hs : c.frames = l0 ++ [f]) (hN : N ≤ 1000000000) (hr : rightB i.op i.a i.b i.labels = true) (hz : ∀ t ∈ v.m.types, t.params.size ≤ 1000000 ∧ t.results.size ≤ 1) : CInv (stepC v i c) (N + 1) ∧ (stepC v i c).frames.length = lenS i.op c.frames.length := by
  cases hc : controlC v i c with
  | some c' =>
    have e : stepC v i c = c' := by unfold stepC; rw [hc]
    rw [e]
    exact inv_control h hs hN hc
  | none =>
    have hops := control_none_ops hc
    have hlen : lenS i.op c.frames.length = c.frames.length := lenS_same (by omega)
    rw [hlen]
    have fin : ∀ {c2 : Ck}, stepC v i c = c2 → CInv c2 (N + 1) → c2.frames = c.frames → CInv (stepC v i c) (N + 1) ∧ (stepC v i c).frames.length = c.frames.length := fun he h1 h2 => by rw [he]; exact ⟨h1, by rw [h2]⟩
    by_cases h16 : i.op = 16
    · refine fin (c2 := putC (calleeC v i.a.toNat c).2.results.data.toList (takeC (calleeC v i.a.toNat c).2.params.data.toList (calleeC v i.a.toNat c).1)) ?_ ?_ ?_
      · unfold stepC
        rw [hc]
        dsimp only
        rw [if_pos h16]
      · have h1 := h.same (calleeC_same v i.a.toNat c)
        exact ((h1.take ((calleeC_same v i.a.toNat c).1.trans hs) _).1).put (results_small (m := v.m) hz)
      · have h1 := h.same (calleeC_same v i.a.toNat c)
        exact ((h1.take ((calleeC_same v i.a.toNat c).1.trans hs) _).2).trans (calleeC_same v i.a.toNat c).1
    by_cases h26 : i.op = 26
    · have l := Less.pop hs (h.top hs)
      exact fin (step_26 h26 c) ((h.less hs l).mono (by omega)) l.frames
    by_cases h27 : i.op = 27
    · have t := h.take hs [127]
      have hs1 : (takeC [127] c).frames = l0 ++ [f] := t.2.trans hs
      have p1 := Less.pop hs1 (t.1.top hs1)
      have i1 := t.1.less hs1 p1
      have hs2 : (popC (takeC [127] c)).1.frames = l0 ++ [f] := p1.frames.trans hs1
      have p2 := Less.pop hs2 (i1.top hs2)
      have i2 := i1.less hs2 p2
      refine fin (c2 := selC c) ?_ ((i2.want _).put (by simp)) ?_
      · unfold stepC
        rw [hc]
        dsimp only
        rw [if_neg h16, if_neg h26, if_pos h27]
        rfl
      · exact p2.frames.trans (hs2.trans hs.symm)
    by_cases h32 : i.op = 32
    · exact fin (step_32 h32 c) ((h.same (localC_same v _ c)).put (localC_len v _ c)) (localC_same v _ c).1
    by_cases h33 : i.op = 33
    · have h1 := h.same (localC_same v i.a.toNat c)
      have t := h1.take ((localC_same v i.a.toNat c).1.trans hs) (localC v i.a.toNat c).2
      exact fin (step_33 h33 c) (t.1.mono (by omega)) (t.2.trans (localC_same v _ c).1)
    by_cases h34 : i.op = 34
    · have h1 := h.same (localC_same v i.a.toNat c)
      have t := h1.take ((localC_same v i.a.toNat c).1.trans hs) (localC v i.a.toNat c).2
      exact fin (step_34 h34 c) (t.1.put (localC_len v _ c)) (t.2.trans (localC_same v _ c).1)
    by_cases h35 : i.op = 35
    · exact fin (step_35 h35 c) ((h.same (globalC_same v _ false c)).put (globalC_len v _ false c)) (globalC_same v _ false c).1
    by_cases h36 : i.op = 36
    · have h1 := h.same (globalC_same v i.a.toNat true c)
      have t := h1.take ((globalC_same v i.a.toNat true c).1.trans hs) (globalC v i.a.toNat true c).2
      exact fin (step_36 h36 c) (t.1.mono (by omega)) (t.2.trans (globalC_same v _ true c).1)
    obtain ⟨inf, hi, _, _, _⟩ := right_facts hr
    refine fin (stepC_last hc hi ⟨h16, h26, h27, h32, h33, h34, h35, h36⟩) ?_ ?_
    · have t := ((h.want (!v.m.memory.isEmpty || (inf.shape != 5 && inf.shape != 6))).want (inf.shape != 5 || decide (i.a ≤ reachOf i.op))).take hs inf.params.data.toList
      exact t.1.put (by rw [data_len]; exact (info_small hi).2)
    · exact (((h.want (!v.m.memory.isEmpty || (inf.shape != 5 && inf.shape != 6))).want (inf.shape != 5 || decide (i.a ≤ reachOf i.op))).take hs inf.params.data.toList).2
end Go.Proofs.YtmbgemcddjailaaGreatDoor.Vld

/- VldR: What valid.valid answers. No condition beyond what each theorem names. -/
namespace Go.Proofs.YtmbgemcddjailaaGreatDoor.Vld
open Go.RowKit Go.Maps Go.Proofs.YtmbgemcddjailaaGreatDoor.Op Go.Proofs.YtmbgemcddjailaaGreatDoor.Mod
set_option linter.unusedVariables false
/-- a function that may be checked -/
structure FuncOk (x : FuncP) : Prop where
  ty : 0 ≤ x.ty
  locals : x.locals.size ≤ 400000
  right : x.code.all rightIns = true
  struct : structB [] (opsOf x.code) = true
  len : x.code.length ≤ 1000000
def TypesOk (m : ModP) : Prop := ∀ t ∈ m.types, t.params.size ≤ 400000 ∧ t.results.size ≤ 1
theorem lenS_step {st s' : List Int} {o : Int} (h : stepS st o = some s') : lenS o (st.length + 1) = s'.length + 1 := by
  unfold stepS at h
  unfold lenS
  by_cases h2 : o = 2 ∨ o = 3 ∨ o = 4
  · rw [if_pos h2] at h ⊢
    cases h
    simp
  rw [if_neg h2] at h ⊢
  by_cases h5 : o = 5
  · rw [if_pos h5] at h
    rw [if_neg (by omega)]
    split at h
    · cases h
      rename_i hl
      have : st ≠ [] := by rintro rfl; simp at hl
      have := List.length_pos_iff.2 this
      simp
      omega
    · cases h
  rw [if_neg h5] at h
  by_cases h11 : o = 11
  · rw [if_pos h11] at h ⊢
    split at h
    · cases h
    · cases h
      rename_i hl
      have := List.length_pos_iff.2 hl
      simp
      omega
  rw [if_neg h11] at h ⊢
  cases h
  rfl
/-- in the midst: what the blocks open say -/
def Mid (ops : List Int) (j : Nat) (c : Ck) : Prop := j = ops.length ∨ ∃ st, structB st (ops.drop j) = true ∧ c.frames.length = st.length + 1
theorem Mid.next {ops : List Int} {j : Nat} {c c' : Ck} {o : Int} (h : Mid ops j c) (ho : ops[j]? = some o) (hc : c'.frames.length = lenS o c.frames.length) : Mid ops (j + 1) c' := by
  have hlt := (List.getElem?_eq_some_iff.1 ho).1
  rcases h with h | ⟨st, hst, hfr⟩
  · omega
  · have hd : ops.drop j = o :: ops.drop (j + 1) := by
      rw [List.drop_eq_getElem_cons hlt]
      congr 1
      exact (List.getElem?_eq_some_iff.1 ho).2
    rw [hd] at hst
    change (if o = 11 ∧ st = [] then (ops.drop (j + 1)).isEmpty else match stepS st o with | none => false | some s => structB s (ops.drop (j + 1))) = true at hst
    by_cases h1 : o = 11 ∧ st = []
    · rw [if_pos h1, List.isEmpty_iff, List.drop_eq_nil_iff] at hst
      exact .inl (by omega)
    · rw [if_neg h1] at hst
      cases hs : stepS st o with
      | none => rw [hs] at hst; cases hst
      | some s =>
        rw [hs] at hst
        exact .inr ⟨s, hst, by rw [hc, hfr, lenS_step hs]⟩
theorem Mid.some {ops : List Int} {j : Nat} {c : Ck} (h : Mid ops j c) (hj : j < ops.length) : ∃ l0 f, c.frames = l0 ++ [f] := by
  rcases h with h | ⟨st, _, hfr⟩
  · omega
  · rcases List.eq_nil_or_concat c.frames with he | ⟨l0, f, he⟩
    · rw [he] at hfr; simp at hfr
    · exact ⟨l0, f, by rw [he, List.concat_eq_append]⟩
theorem walk_snoc {v : Vn} {xs : List InsL} {j : Nat} {x : InsL} (h : xs[j]? = some x) {c0 cj : Ck} (hw : walkC v (xs.take j) c0 = some cj) : walkC v (xs.take (j + 1)) c0 = if (stepC v x cj).wrong then none else some (stepC v x cj) := by
  rw [List.take_add_one, h, walk_append, hw]
  rfl
theorem run_wrong {v : Vn} {xs : List InsL} {j : Nat} {c0 : Ck} (h : walkC v (xs.take j) c0 = none) : runC v xs c0 = false := by
  rw [runC_walk, ← List.take_append_drop j xs, walk_append, h]
  rfl
/-- in a loop over the code -/
def RelV (w0 : World) (B cb : Nat) (E : Ce) (x0 : Cx) (v : Vn) (code : List InsL) (c0 : Ck) (i : Value) (wr : World) : Prop :=
  ∃ (j : Nat) (xj : Cx) (cj : Ck), j ≤ code.length ∧ i = .int .i64 (j : Int) ∧ Chain w0 B cb E x0 j wr xj cj ∧ walkC v (code.take j) c0 = some cj ∧ cj.wrong = false ∧ CInv cj j ∧ Mid (opsOf code) j cj
theorem validF_none {m : ModP} {x : FuncP} (h0 : 0 ≤ x.ty) (h : (m.types.length : Int) ≤ x.ty) : validF m x = false := by
  unfold validF
  rw [if_pos h0, List.getElem?_eq_none (by omega)]
theorem validF_some {m : ModP} {x : FuncP} {i : Nat} (h0 : x.ty = (i : Int)) {t : FT} (h : m.types[i]? = some t) : validF m x = runC ⟨m, t.params.data.toList ++ x.locals.data.toList, t.results.data.toList⟩ x.code (startC t.results.data.toList) := by
  unfold validF
  rw [if_pos (by omega), h0, Int.toNat_natCast, h]
set_option maxRecDepth 100000 in
set_option maxHeartbeats 4000000 in
theorem valid_any (t fv me g e : Value) (st : Int) (d : Value) (m : ModP) (w : World) (hM : ModAt w t fv me g e st d m) (hE : OpEnv w) (hT : TypesOk m) (x : FuncP) (cv : Value) (hc : CodeAt w cv x.code) (hx : FuncOk x) :
    Calls Tryz.prog 32 #[modV t fv me g e st d, .agg #[.int .i64 x.ty, .string x.locals, cv]] w fun en w' => en = .returned (.bool (validF m x)) ∧ Below w.heap.size w w' := by
  obtain ⟨la, tcap, htv, htl, hta⟩ := hM.types.form
  obtain ⟨ca, ccap, hcv, hcl, hca⟩ := hc.form
  obtain ⟨ma, mcap, hmv, hml, _⟩ := hM.memory.form
  subst htv hcv hmv
  obtain ⟨T, hTl⟩ : ∃ T, m.types.length = T := ⟨_, rfl⟩
  rw [hTl] at htl ⊢
  unfold modV
  by_cases hty : (T : Int) ≤ x.ty
  · rw [validF_none hx.ty (by rw [hTl]; exact hty)]
    have hd : decide ((T : Int) ≤ x.ty) = true := decide_eq_true hty
    clear hM hE hT hc hx hta hca
    go_enter Tryz.func32, Tryz.ntmps32
    go_wp2_with fail
    go_ret
    exact ⟨rfl, ((Below.refl _ _).alloc (Nat.le_refl _) _).alloc (by simp) _⟩
  · obtain ⟨i, hi⟩ : ∃ i : Nat, x.ty = (i : Int) := ⟨x.ty.toNat, by have := hx.ty; omega⟩
    rw [hi] at hty ⊢
    obtain ⟨ft, hft⟩ : ∃ ft, m.types[i]? = some ft := ⟨_, List.getElem?_eq_getElem (by omega)⟩
    rw [validF_some hi hft]
    obtain ⟨r, hr, _, b, off, hla, hb, hcells⟩ := hta i ft hft
    rw [hr.1] at hcells
    have q0 : w.cell? ⟨b, off + i * 2, none⟩ = some (.string ft.params) := hcells 0 _ rfl
    have q1 : w.cell? ⟨b, off + i * 2 + 1, none⟩ = some (.string ft.results) := hcells 1 _ rfl
    subst hla
    have hd : decide (T ≤ i) = false := decide_eq_false (by omega)
    have hi0 : (0 : Int) ≤ (i : Int) := by omega
    have hi1 : (i : Int) < (T : Int) := by omega
    have hmm := @run_makeMap Tryz.prog
    have hts := hT ft (List.mem_of_getElem? hft)
    have hlo := hx.locals
    have hcat : ¬ 9223372036854775807 < ft.params.size + x.locals.size := by omega
    obtain ⟨v, hv⟩ : ∃ v : Vn, (⟨m, ft.params.data.toList ++ x.locals.data.toList, ft.results.data.toList⟩ : Vn) = v := ⟨_, rfl⟩
    rw [hv]
    obtain ⟨Q, hQ⟩ : ∃ Q, runC v x.code (startC ft.results.data.toList) = Q := ⟨_, rfl⟩
    rw [hQ]
    obtain ⟨N, hN⟩ : ∃ N, x.code.length = N := ⟨_, rfl⟩
    have HN := Lib.hid hN
    have HQ := Lib.hid hQ
    have HV := Lib.hid hv
    have HM := Lib.hid hM
    have HE := Lib.hid hE
    have HT := Lib.hid hT
    have HX := Lib.hid hx
    have HCA := Lib.hid hca
    have HLO := Lib.hid (show ft.params.size + x.locals.size < 1000000 by omega)
    have HR1 := Lib.hid hts.2
    have hn6 : N ≤ 1000000 := by rw [← hN]; exact hx.len
    rw [hN]
    clear hM hE hT hc hx hta hca hcells hr hv hQ hts hlo
    go_enter Tryz.func32, Tryz.ntmps32
    go_upto_region 6 with fail
    obtain ⟨W6, hW6⟩ : ∃ W6, ((((((w.alloc (.cells #[.slice (some ⟨b, off, none⟩) T tcap, fv, .slice ma m.memory.length mcap, g, e, .int .i64 st, d] 41)).alloc (.cells #[.int .i64 (i : Int), .string x.locals, .slice ca N ccap] 32)).alloc (.cells #[.string ft.params, .string ft.results] 25)).alloc (.map #[] 0)).alloc (.cells #[.int .i64 0, .string ft.results, .int .i64 0, .bool false] 156)).alloc (.cells #[.slice (some ⟨b, off, none⟩) T tcap, fv, .slice ma m.memory.length mcap, g, e, .int .i64 st, d, .string (ft.params ++ x.locals), .string ft.results, .map (some (w.heap.size + 1 + 1 + 1)), .slice none 0 0, .slice (some ⟨w.heap.size + 1 + 1 + 1 + 1, 0, none⟩) 1 1, .bool false] 159)) = W6 := ⟨_, rfl⟩
    rw [hW6]
    obtain ⟨_, n1, _, n3, n4, n5, _⟩ := Pg.six_new _ _ _ _ _ _ _ _ hW6
    have b6 : Below w.heap.size w W6 := by
      rw [← hW6]
      exact ((((((Below.refl _ _).alloc (Nat.le_refl _) _).alloc (by simp) _).alloc (by simp; omega) _).alloc (by simp; omega) _).alloc (by simp; omega) _).alloc (by simp; omega) _
    have s6 : W6.heap.size = w.heap.size + 1 + 1 + 1 + 1 + 1 + 1 := by rw [← hW6]; simp
    clear hW6
    have q2 : W6.cell? ⟨w.heap.size + 1, 2, none⟩ = some (.slice ca N ccap) := cell_of_row W6 _ _ _ _ _ n1
    obtain ⟨E, hEE⟩ : ∃ E : Ce, E = ⟨.slice (some ⟨b, off, none⟩) T tcap, fv, .slice ma m.memory.length mcap, g, e, st, d, ft.params ++ x.locals, ft.results, w.heap.size + 1 + 1 + 1⟩ := ⟨_, rfl⟩
    have hck : CkAt W6 (w.heap.size + 1 + 1 + 1) (w.heap.size + 1 + 1 + 1 + 1 + 1) E ⟨.slice none 0 0, .slice (some ⟨w.heap.size + 1 + 1 + 1 + 1, 0, none⟩) 1 1⟩ (startC ft.results.data.toList) 0 := by
      subst hEE
      refine ⟨n5, ⟨by omega, Nat.le_refl _⟩, World.ownsRow_nil _ _ _ _, ⟨rfl, .inr ⟨_, 1, _, rfl, by omega, n4, Nat.le_refl _, by unfold maxLen; decide, rfl, rfl⟩⟩, 0, .map [], ?_, ⟨⟨[], rfl⟩, fun code z hh => by cases hh⟩, Nat.le_refl _⟩
      have h0 := World.ownsMap_made (((w.alloc (.cells #[] 0)).alloc (.cells #[] 0)).alloc (.cells #[] 0)) Tryz.prog 3 asIs
      have e0 : (((w.alloc (.cells #[] 0)).alloc (.cells #[] 0)).alloc (.cells #[] 0)).heap.size = w.heap.size + 1 + 1 + 1 := by simp
      rw [e0] at h0
      refine ownsMap_of h0 (n3.trans ?_)
      have h1 := heap_alloc_new (((w.alloc (.cells #[] 0)).alloc (.cells #[] 0)).alloc (.cells #[] 0)) (.map #[] 0)
      rw [e0] at h1
      exact h1.symm
    have B6 := Lib.hid b6
    have S6 := Lib.hid s6
    have HCK := Lib.hid hck
    have HEE := Lib.hid hEE
    clear n1 n3 n4 n5 b6 hck hEE s6
    obtain ⟨c0, hc0⟩ : ∃ c0, startC ft.results.data.toList = c0 := ⟨_, rfl⟩
    rw [hc0] at HCK HQ
    have HC0 := Lib.hid hc0
    clear hc0
    go_wp2_with fail
    go_loopw [42] (fun ix wr => RelV W6 (w.heap.size + 1 + 1 + 1) (w.heap.size + 1 + 1 + 1 + 1 + 1) E ⟨.slice none 0 0, .slice (some ⟨w.heap.size + 1 + 1 + 1 + 1, 0, none⟩) 1 1⟩ v x.code c0 ix wr) (fun ix _ => N - (intOf ix).toNat)
    case atStart =>
      refine ⟨0, _, c0, Nat.zero_le _, rfl, Chain.start HCK.out (Below.refl _ _), rfl, by rw [← HC0.out]; rfl, ?_, .inr ⟨[], HX.out.struct, by rw [← HC0.out]; rfl⟩⟩
      rw [← HC0.out]
      refine ⟨⟨Nat.le_refl _, trivial⟩, fun f hf => ?_, Nat.le_refl _, Nat.le_refl _⟩
      rw [List.mem_singleton.1 (show f ∈ [(⟨0, ft.results.data.toList, 0, false⟩ : Fr)] from hf)]
      show ft.results.data.toList.length ≤ 1
      rw [data_len]
      exact HR1.out
    case round =>
      obtain ⟨j, xj, cj, hj, rfl, ch, hw, hwr, inv, mid⟩ := hrel
      obtain ⟨Wj, rfl⟩ : ∃ Wj, Wj = wr := ⟨_, rfl⟩
      rw [HN.out] at hj
      by_cases hlt : j < N
      · obtain ⟨xi, hxi⟩ : ∃ xi, x.code[j]? = some xi := ⟨_, List.getElem?_eq_getElem (by have := HN.out; omega)⟩
        obtain ⟨rr, ⟨lv, hrr, hlv, hwf⟩, _, bc, offc, hcaa, hbc, hcc⟩ := HCA.out j xi hxi
        subst hcaa
        obtain ⟨lva, lvc, hlf⟩ := intsAt_form hlv
        subst hlf
        rw [hrr] at hcc
        have bj : Below w.heap.size w Wj := B6.out.trans ((Chain.below HCK.out (by have := S6.out; omega) ch).mono (by omega))
        have e0 : Wj.cell? ⟨bc, offc + j * 4, none⟩ = some (.int .i64 xi.op) := cell_later bj (hcc 0 _ rfl)
        have e1 : Wj.cell? ⟨bc, offc + j * 4 + 1, none⟩ = some (.int .i64 xi.a) := cell_later bj (hcc 1 _ rfl)
        have e2 : Wj.cell? ⟨bc, offc + j * 4 + 2, none⟩ = some (.int .i64 xi.b) := cell_later bj (hcc 2 _ rfl)
        have e3 : Wj.cell? ⟨bc, offc + j * 4 + 3, none⟩ = some (.slice lva xi.labels.length lvc) := cell_later bj (hcc 3 _ rfl)
        have hd2 : decide (j < N) = true := decide_eq_true hlt
        have hi0 : (0 : Int) ≤ (j : Int) := by omega
        have hi1 : (j : Int) < (N : Int) := by omega
        have hwj : IntKind.i64.wrap ((j : Int) + 1) = (j : Int) + 1 := IntWalk.i64_in _ (by omega)
        obtain ⟨l0, f, hfr⟩ := mid.some (by unfold opsOf; rw [List.length_map, HN.out]; exact hlt)
        have hright : rightB xi.op xi.a xi.b xi.labels = true := List.all_eq_true.1 HX.out.right xi (List.mem_of_getElem? hxi)
        have hsz : ∀ t ∈ v.m.types, t.params.size ≤ 1000000 ∧ t.results.size ≤ 1 := fun t ht => by
          rw [← HV.out] at ht
          have := HT.out t ht
          exact ⟨by omega, this.2⟩
        obtain ⟨inv2, hlen2⟩ := step_inv (v := v) (i := xi) inv hfr (by omega) hright hsz
        have hmid2 := mid.next (c' := stepC v xi cj) (o := xi.op) (by unfold opsOf; rw [List.getElem?_map, hxi]; rfl) hlen2
        have hws := walk_snoc hxi hw
        have BJ := Lib.hid bj
        have CJ := Lib.hid ch
        have HINV := Lib.hid inv
        have HINV2 := Lib.hid inv2
        have HMID2 := Lib.hid hmid2
        have HWS := Lib.hid hws
        have HFR := Lib.hid hfr
        have HRT := Lib.hid hright
        have HWF := Lib.hid hwf
        have HLV := Lib.hid hlv
        have HSZ := Lib.hid hsz
        clear ch hw hwr inv mid hxi hrr hlv hwf hcc bj hfr hright hsz inv2 hlen2 hmid2 hws
        go_wp2_with fail
        obtain ⟨W7, hW7⟩ : ∃ W7, Wj.alloc (.cells #[.int .i64 xi.op, .int .i64 xi.a, .int .i64 xi.b, .slice lva xi.labels.length lvc] 29) = W7 := ⟨_, rfl⟩
        rw [hW7]
        have b7 : Below Wj.heap.size Wj W7 := by rw [← hW7]; exact (Below.refl _ _).alloc (Nat.le_refl _) _
        have C7 := Lib.hid (CJ.out.later b7)
        have B7 := Lib.hid (BJ.out.trans (b7.mono BJ.out.size))
        clear hW7 b7 e0 e1 e2 e3
        have hask : Ask W7 (w.heap.size + 1 + 1 + 1) (w.heap.size + 1 + 1 + 1 + 1 + 1) E xj cj j v l0 f := by
          refine ⟨C7.out.here, C7.out.size (by have := S6.out; omega), HINV.out.few HFR.out (by omega), HINV.out.thin, ?_, ?_, ?_, ?_⟩
          · rw [← HV.out, HEE.out]
          · rw [HEE.out]; exact HR1.out
          · rw [← HV.out, HEE.out]; simp [ByteArray.data_append]
          · rw [HEE.out]; show (ft.params ++ x.locals).size < _; rw [ByteArray.size_append]; exact HLO.out
        have hmono : ∀ W, Below (w.heap.size + 1 + 1 + 1) W7 W → Below w.heap.size w W := fun W hW => B7.out.trans (hW.mono (by omega))
        have haskm : AskM W7 (w.heap.size + 1 + 1 + 1) E v :=
          ⟨fun W hW => opEnv_later HE.out (hmono W hW), fun W hW => by rw [HEE.out, ← HV.out]; exact (HM.out.later (hmono W hW)).globals, fun W hW => by rw [HEE.out, ← HV.out]; exact (HM.out.later (hmono W hW)).funcs, fun W hW => by rw [HEE.out, ← HV.out]; have h := (HM.out.later (hmono W hW)).types; rw [hTl] at h; exact h, ⟨ma, mcap, by rw [HEE.out, ← HV.out]⟩, HSZ.out⟩
        have hstep := step_any hask haskm (by unfold maxLen; omega) xi (.slice lva xi.labels.length lvc) HRT.out HWF.out (fun W hW => intsAt_later HLV.out (hmono W hW))
        clear hask haskm hmono
        refine hstep.mono ?_
        rintro en W8 ⟨rfl, u8⟩
        obtain ⟨x8, ch8⟩ := C7.out.next u8
        obtain ⟨_, _, c12⟩ := ch8.here.cells
        have C8 := Lib.hid ch8
        clear u8 ch8 hstep
        cases hwr8 : (stepC v xi cj).wrong
        · rw [hwr8] at c12
          have HW8 := Lib.hid hwr8
          clear hwr8
          go_wp2_with fail
          go_roundw
          case rel => exact ⟨j + 1, x8, _, by have := HN.out; omega, by go_num, C8.out, by rw [HWS.out, HW8.out]; rfl, HW8.out, HINV2.out, HMID2.out⟩
          case measure => simp [intOf]; omega
        · rw [hwr8] at c12
          have hfalse := run_wrong (HWS.out.trans (by rw [hwr8]; rfl))
          rw [HQ.out] at hfalse
          subst hfalse
          have BW := Lib.hid (B6.out.trans ((Chain.below HCK.out (by have := S6.out; omega) C8.out).mono (by omega)))
          clear hwr8
          go_wp2_with fail
          go_ret
          exact ⟨rfl, BW.out⟩
      · obtain rfl : j = N := by omega
        have hd2 : decide (j < j) = false := by simp
        have htrue : Q = true := by
          rw [← HQ.out, runC_walk]
          rw [List.take_of_length_le (by have := HN.out; omega)] at hw
          rw [hw]
          rfl
        subst htrue
        have BW := Lib.hid (B6.out.trans ((Chain.below HCK.out (by have := S6.out; omega) ch).mono (by omega)))
        clear ch hw hwr inv mid
        go_wp2_with fail
        go_ret
        exact ⟨rfl, BW.out⟩
end Go.Proofs.YtmbgemcddjailaaGreatDoor.Vld
