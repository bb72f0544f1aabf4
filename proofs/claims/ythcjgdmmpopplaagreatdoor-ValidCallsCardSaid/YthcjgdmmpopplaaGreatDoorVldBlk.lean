/-
  Blocks in one another, a br to a label within: structured, right, as deep as they are, valid if the label is one. Plain.
-/
import Derived.Test.YthcjgdmmpopplaaGreatDoorVldEx
import Derived.Test.YthcjgdmmpopplaaGreatDoorModBlocksP
namespace Go.Proofs.YthcjgdmmpopplaaGreatDoor.Vld
open Go.RowKit Go.Proofs.YthcjgdmmpopplaaGreatDoor.Op Go.Proofs.YthcjgdmmpopplaaGreatDoor.Mod Go.Proofs.YthcjgdmmpopplaaGreatDoor.Pg
set_option linter.unusedVariables false
def opI (i : Nat) : Ins := ⟨2 + (i : Int) % 2, 64, 0⟩
def opensC (k : Nat) : List Ins := (List.range k).map opI
def endsC (n : Nat) : List Ins := List.replicate n ⟨11, 0, 0⟩
def nestC (k : Nat) (mid : List Ins) : List Ins := opensC k ++ mid ++ endsC (k + 1)
def mod1 (mem : List MemP) : ModP := ⟨[⟨⟨#[]⟩, ⟨#[]⟩⟩], [], mem, [], [], -1, []⟩
def fn0 (c : List Ins) : FuncP := ⟨0, ⟨#[]⟩, c.map tL⟩
theorem opI_two (i : Nat) : (opI i).op = 2 ∨ (opI i).op = 3 := by
  show 2 + (i : Int) % 2 = 2 ∨ 2 + (i : Int) % 2 = 3
  omega
theorem opensC_succ (k : Nat) : opensC (k + 1) = opensC k ++ [opI k] := by unfold opensC; rw [List.range_succ, List.map_append]; rfl
theorem opensC_len (k : Nat) : (opensC k).length = k := by simp [opensC]
theorem endsC_succ (k : Nat) : endsC (k + 1) = endsC k ++ [⟨11, 0, 0⟩] := List.replicate_succ'
theorem opens_run (k : Nat) : ∃ st, runS [] ((opensC k).map Ins.op) = some st ∧ st.length = k := by
  induction k with
  | zero => exact ⟨[], rfl, rfl⟩
  | succ k ih =>
    obtain ⟨st, h1, h2⟩ := ih
    refine ⟨st ++ [(opI k).op], ?_, by simp [h2]⟩
    rw [opensC_succ, List.map_append, runS_cat h1]
    exact runS_open ((opI_two k).elim .inl (fun h => .inr (.inl h)))
theorem ends_ops (n : Nat) : (endsC n).map Ins.op = List.replicate n 11 := by unfold endsC; rw [List.map_replicate]
theorem nest_struct (k : Nat) (mid : List Ins) (hm : ∀ st, runS st (mid.map Ins.op) = some st) : structB [] ((nestC k mid).map Ins.op) = true := by
  obtain ⟨st, h1, h2⟩ := opens_run k
  have h3 : runS [] ((opensC k ++ mid ++ endsC k).map Ins.op) = some [] := by
    rw [List.map_append, List.map_append, List.append_assoc, runS_cat h1, runS_cat (hm st), ends_ops]
    exact ends_run k st h2
  have h4 := whole_yes h3
  unfold nestC
  rw [endsC_succ, ← List.append_assoc, List.map_append]
  exact h4
theorem ok2 : okI ⟨2, 64, 0⟩ = true := by kernel_rfl
theorem ok3 : okI ⟨3, 64, 0⟩ = true := by kernel_rfl
theorem ok11 : okI ⟨11, 0, 0⟩ = true := by kernel_rfl
theorem okBr : ((List.range 24).all fun a => okI ⟨12, (a : Int), 0⟩) = true := by kernel_rfl
theorem opens_ok (k : Nat) : ∀ x ∈ opensC k, okI x = true := by
  intro x hx
  obtain ⟨i, _, rfl⟩ := List.mem_map.1 hx
  unfold opI
  rcases (show 2 + (i : Int) % 2 = 2 ∨ 2 + (i : Int) % 2 = 3 by omega) with h | h
  · rw [h]; exact ok2
  · rw [h]; exact ok3
theorem nest_ok (k : Nat) (mid : List Ins) (hm : ∀ x ∈ mid, okI x = true) : ∀ x ∈ nestC k mid, okI x = true := by
  intro x hx
  rcases List.mem_append.1 hx with hx | hx
  · rcases List.mem_append.1 hx with hx | hx
    · exact opens_ok k x hx
    · exact hm x hx
  · rw [List.eq_of_mem_replicate hx]
    exact ok11
/-- a function of no locals is right -/
theorem fn0_right (mem : List MemP) (hmem : allB mem rightMem = true) (c : List Ins) (h1 : structB [] (c.map Ins.op) = true) (h2 : ∀ x ∈ c, okI x = true) : rightM { mod1 mem with funcs := [fn0 c] } = true := by
  have e3 : (c.map tL).all rightIns = true := by
    rw [List.all_eq_true]
    intro y hy
    obtain ⟨x, hx, rfl⟩ := List.mem_map.1 hy
    exact h2 x hx
  have e4 : opsOf (c.map tL) = c.map Ins.op := code_toL c
  have e5 : rightFunc (fn0 c) = true := by
    unfold rightFunc fn0
    dsimp only
    rw [e3, e4, h1]
    rfl
  unfold rightM mod1
  dsimp only
  rw [one_all _ _ e5, hmem]
  rfl
theorem nestGo_opens : ∀ (l : List Int), (∀ o ∈ l, o = 2 ∨ o = 3) → ∀ (n : Int) (rest : List Int), nestGo (l ++ rest) n n = nestGo rest (n + l.length) (n + l.length)
  | [], _, n, rest => by simp
  | o :: l, h, n, rest => by
    have ho : o = 2 ∨ o = 3 ∨ o = 4 := (h o (by simp)).elim .inl (fun h => .inr (.inl h))
    show (let n1 := if o = 2 ∨ o = 3 ∨ o = 4 then n + 1 else if o = 11 then n - 1 else n; nestGo (l ++ rest) n1 (if n ≤ n1 then n1 else n)) = _
    rw [if_pos ho]
    dsimp only
    rw [if_pos (by omega), nestGo_opens l (fun o ho => h o (List.mem_cons_of_mem _ ho)) (n + 1) rest]
    rw [show n + 1 + (l.length : Int) = n + ((o :: l).length : Int) by simp; omega]
theorem nestGo_ends : ∀ (j : Nat) (n most : Int), n ≤ most → nestGo (List.replicate j 11) n most = most
  | 0, n, most, h => rfl
  | j + 1, n, most, h => by
    show (let n1 := if (11 : Int) = 2 ∨ (11 : Int) = 3 ∨ (11 : Int) = 4 then n + 1 else if (11 : Int) = 11 then n - 1 else n; nestGo (List.replicate j 11) n1 (if most ≤ n1 then n1 else most)) = _
    rw [if_neg (by omega), if_pos rfl]
    dsimp only
    rw [if_neg (by omega)]
    exact nestGo_ends j (n - 1) most (by omega)
theorem opens_two (k : Nat) : ∀ o ∈ (opensC k).map Ins.op, o = 2 ∨ o = 3 := by
  intro o ho
  obtain ⟨x, hx, rfl⟩ := List.mem_map.1 ho
  obtain ⟨i, _, rfl⟩ := List.mem_map.1 hx
  exact opI_two i
theorem ops_tL (c : List Ins) : (c.map tL).map InsL.op = c.map Ins.op := by rw [List.map_map]; rfl
theorem nest_nil (k : Nat) : nestP ((nestC k []).map tL) = k := by
  unfold nestP nestC
  rw [ops_tL, List.append_nil, List.map_append, nestGo_opens _ (opens_two k), ends_ops, nestGo_ends _ _ _ (Int.le_refl _), List.length_map, opensC_len]
  omega
theorem nest_br (k : Nat) (a : Int) : nestP ((nestC k [⟨12, a, 0⟩]).map tL) = k := by
  unfold nestP nestC
  rw [ops_tL, List.map_append, List.map_append, List.append_assoc, nestGo_opens _ (opens_two k), ends_ops, List.length_map, opensC_len]
  show nestGo (12 :: List.replicate (k + 1) 11) (0 + (k : Int)) (0 + (k : Int)) = _
  show (let n1 := if (12 : Int) = 2 ∨ (12 : Int) = 3 ∨ (12 : Int) = 4 then (0 + (k : Int)) + 1 else if (12 : Int) = 11 then (0 + (k : Int)) - 1 else (0 + (k : Int)); nestGo (List.replicate (k + 1) 11) n1 (if (0 + (k : Int)) ≤ n1 then n1 else (0 + (k : Int)))) = _
  rw [if_neg (by omega), if_neg (by omega)]
  dsimp only
  rw [if_pos (Int.le_refl _), nestGo_ends _ _ _ (Int.le_refl _)]
  omega
/-- the frames -/
def frK (k : Nat) : List Fr := ⟨0, [], 0, false⟩ :: (List.range k).map fun (i : Nat) => ⟨2 + (i : Int) % 2, [], 0, false⟩
theorem frK_succ (k : Nat) : frK (k + 1) = frK k ++ [⟨2 + (k : Int) % 2, [], 0, false⟩] := by unfold frK; rw [List.range_succ, List.map_append]; rfl
theorem frK_len (k : Nat) : (frK k).length = k + 1 := by simp [frK]
theorem mem_drop {α : Type} {l : List α} {x : α} (h : x ∈ l.dropLast) : x ∈ l := List.dropLast_subset l h
def flat (f : Fr) : Prop := f.result = [] ∧ f.height = 0 ∧ f.op ≠ 4
theorem frK_flat (k : Nat) : ∀ f ∈ frK k, flat f := by
  intro f hf
  rcases List.mem_cons.1 hf with rfl | hf
  · exact ⟨rfl, rfl, by decide⟩
  · obtain ⟨i, _, rfl⟩ := List.mem_map.1 hf
    refine ⟨rfl, rfl, ?_⟩
    show 2 + (i : Int) % 2 ≠ 4
    omega
theorem opens_go (v : Vn) (k : Nat) : Goes v (opensC k) (startC []) ⟨[], frK k, false⟩ := by
  induction k with
  | zero => exact Goes.nil _ _
  | succ k ih =>
    rw [opensC_succ]
    refine ih.trans (Goes.one ?_ rfl)
    rw [step_open (opI_two k), frK_succ]
    rfl
theorem ends_go (v : Vn) : ∀ (j : Nat) (fs : List Fr), fs.length = j → (∀ f ∈ fs, flat f) → Goes v (endsC j) ⟨[], fs, false⟩ ⟨[], [], false⟩
  | 0, fs, hl, _ => by rw [List.eq_nil_of_length_eq_zero hl]; exact Goes.nil _ _
  | j + 1, fs, hl, hf => by
    obtain ⟨f, hlast⟩ : ∃ f, fs.getLast? = some f := by
      cases hq : fs.getLast? with
      | none => rw [List.getLast?_eq_none_iff.1 hq] at hl; simp at hl
      | some f => exact ⟨f, rfl⟩
    have hfs : fs = fs.dropLast ++ [f] := by rw [List.getLast?_eq_some_iff] at hlast; obtain ⟨ys, rfl⟩ := hlast; simp
    obtain ⟨h1, h2, h3⟩ := hf f (List.mem_of_getLast? hlast)
    have hstep : stepC v (tL ⟨11, 0, 0⟩) ⟨[], fs, false⟩ = ⟨[], fs.dropLast, false⟩ := by
      have := step_end (v := v) (x := tL ⟨11, 0, 0⟩) rfl (st := []) (fs := fs.dropLast) (f := f) h2 (by rw [h1]; simp)
      rw [h1, ← hfs] at this
      exact this
    show Goes v ([⟨11, 0, 0⟩] ++ endsC j) _ _
    exact (Goes.one hstep rfl).trans (ends_go v j fs.dropLast (by rw [List.length_dropLast]; omega) (fun f hf' => hf f (mem_drop hf')))
theorem valid_goes {mem : List MemP} {c : List Ins} {e : Ck} (h : Goes ⟨mod1 mem, [], []⟩ c (startC []) e) : validF (mod1 mem) (fn0 c) = true := by
  show runC ⟨mod1 mem, [] ++ [], []⟩ (c.map tL) (startC []) = true
  rw [List.append_nil, runC_walk, h]
  rfl
theorem nest_valid (k : Nat) : validF (mod1 []) (fn0 (nestC k [])) = true := by
  unfold nestC
  rw [List.append_nil]
  exact valid_goes ((opens_go _ k).trans (ends_go _ (k + 1) (frK k) (frK_len k) (frK_flat k)))
theorem label_flat {fs : List Fr} (h : ∀ f ∈ fs, flat f) (n : Nat) (hn : n < fs.length) : labelL fs n = some [] := by
  unfold labelL
  rw [if_pos hn, List.getElem?_eq_getElem (by omega)]
  have := (h _ (List.getElem_mem (l := fs) (n := fs.length - 1 - n) (by omega))).1
  simp [labelF, this]
theorem step_br {v : Vn} {x : InsL} (ho : x.op = 12) (c : Ck) : stepC v x c = killC (takeC (labelC x.a.toNat c).2 (labelC x.a.toNat c).1) := by
  unfold stepC controlC
  rw [if_neg (by omega), if_neg (by omega), if_neg (by omega), if_neg (by omega), if_neg (by omega), if_pos ho]
theorem br_valid (k a : Nat) (h : a ≤ k) : validF (mod1 []) (fn0 (nestC k [⟨12, (a : Int), 0⟩])) = true := by
  obtain ⟨f, hlast⟩ : ∃ f, (frK k).getLast? = some f := by
    cases hq : (frK k).getLast? with
    | none => have := List.getLast?_eq_none_iff.1 hq; simp [frK] at this
    | some f => exact ⟨f, rfl⟩
  have hf := frK_flat k f (List.mem_of_getLast? hlast)
  have hstep : stepC ⟨mod1 [], [], []⟩ (tL ⟨12, (a : Int), 0⟩) ⟨[], frK k, false⟩ = ⟨[], setTop (frK k) { f with dead := true }, false⟩ := by
    rw [step_br rfl]
    have hlab : labelL (frK k) (tL ⟨12, (a : Int), 0⟩).a.toNat = some [] := label_flat (frK_flat k) _ (by rw [frK_len]; show ((a : Int)).toNat < k + 1; omega)
    unfold labelC
    dsimp only
    rw [hlab]
    simp only [orBad, takeC, takeR, List.reverse_nil, killC, hlast, List.take_nil]
  refine valid_goes (((opens_go _ k).trans (Goes.one hstep rfl)).trans (ends_go _ (k + 1) _ ?_ ?_))
  · unfold setTop
    rw [List.length_append, List.length_dropLast, frK_len]
    rfl
  · intro g hg
    unfold setTop at hg
    rcases List.mem_append.1 hg with hg | hg
    · exact frK_flat k g (mem_drop hg)
    · rw [List.mem_singleton.1 hg]
      exact ⟨hf.1, hf.2.1, hf.2.2⟩
theorem br_not (k a : Nat) (h : k < a) : validF (mod1 []) (fn0 (nestC k [⟨12, (a : Int), 0⟩])) = false := by
  have hlab : labelL (frK k) (tL ⟨12, (a : Int), 0⟩).a.toNat = none := by
    unfold labelL
    rw [if_neg (by rw [frK_len]; show ¬ ((a : Int)).toNat < k + 1; omega)]
  have hstep : (stepC ⟨mod1 [], [], []⟩ (tL ⟨12, (a : Int), 0⟩) ⟨[], frK k, false⟩).wrong = true := by
    rw [step_br rfl]
    unfold labelC
    dsimp only
    rw [hlab]
    simp only [orBad, takeC, takeR, List.reverse_nil, killC, badC]
    split <;> rfl
  have hw := opens_go ⟨mod1 [], [], []⟩ k
  unfold Goes at hw
  show runC ⟨mod1 [], [] ++ [], []⟩ ((nestC k [⟨12, (a : Int), 0⟩]).map tL) (startC []) = false
  unfold nestC
  rw [List.append_nil, runC_walk, List.append_assoc, List.map_append, walk_append, hw]
  show (if (stepC ⟨mod1 [], [], []⟩ (tL ⟨12, (a : Int), 0⟩) ⟨[], frK k, false⟩).wrong then none else _ : Option Ck).isSome = false
  rw [hstep]
  rfl
theorem law_nest (k : Nat) : funcE (mod1 []) (fn0 (nestC k [])) = if 256 < (k : Int) then 5 else 0 := by
  have hr := fn0_right [] (by decide) (nestC k []) (nest_struct k [] (fun st => rfl)) (nest_ok k [] (fun x hx => by cases hx))
  unfold funcE
  rw [hr, if_neg (by decide)]
  show (if 256 < nestP ((nestC k []).map tL) then 5 else if validF (mod1 []) (fn0 (nestC k [])) = false then 4 else 0) = _
  rw [nest_nil, nest_valid, if_neg (show ¬ true = false by decide)]
theorem law_br (k a : Nat) (hk : k < 20) (ha : a < 24) : funcE (mod1 []) (fn0 (nestC k [⟨12, (a : Int), 0⟩])) = if a ≤ k then 0 else 4 := by
  have hr := fn0_right [] (by decide) (nestC k [⟨12, (a : Int), 0⟩]) (nest_struct k _ (fun st => rfl)) (nest_ok k _ (fun x hx => by rw [List.mem_singleton.1 hx]; exact List.all_eq_true.1 okBr a (List.mem_range.2 ha)))
  have hn : nestP (fn0 (nestC k [⟨12, (a : Int), 0⟩])).code ≤ 256 := by show nestP ((nestC k [⟨12, (a : Int), 0⟩]).map tL) ≤ 256; rw [nest_br]; omega
  by_cases h : a ≤ k
  · rw [if_pos h]
    exact funcE_valid hr hn (br_valid k a h)
  · rw [if_neg h]
    exact funcE_not hr hn (br_not k a (by omega))
end Go.Proofs.YthcjgdmmpopplaaGreatDoor.Vld
