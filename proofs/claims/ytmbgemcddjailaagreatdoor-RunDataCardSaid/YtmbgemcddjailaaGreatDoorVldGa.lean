/-
  VldS, VldTn in one.
-/
import Derived.Test.YtmbgemcddjailaaGreatDoorVldFa
import Derived.Test.YtmbgemcddjailaaGreatDoorModRight
/- VldS: What valid.Nest, valid.Func, valid.starts answer. No condition beyond what each theorem names. -/
namespace Go.Proofs.YtmbgemcddjailaaGreatDoor.Vld
open Go.RowKit Go.Maps Go.Proofs.YtmbgemcddjailaaGreatDoor.Op Go.Proofs.YtmbgemcddjailaaGreatDoor.Mod
set_option linter.unusedVariables false
def nestN (o n : Int) : Int := if o = 2 ∨ o = 3 ∨ o = 4 then n + 1 else if o = 11 then n - 1 else n
theorem nestGo_cons (o : Int) (os : List Int) (n most : Int) : nestGo (o :: os) n most = nestGo os (nestN o n) (max most (nestN o n)) := by
  show nestGo os (nestN o n) (if most ≤ nestN o n then nestN o n else most) = _
  congr 1
def RelN (ops : List Int) (R : Int) (n m i : Value) : Prop := ∃ (j : Nat) (a b : Int), j ≤ ops.length ∧ i = .int .i64 (j : Int) ∧ n = .int .i64 a ∧ m = .int .i64 b ∧ -(j : Int) ≤ a ∧ a ≤ (j : Int) ∧ 0 ≤ b ∧ b ≤ (j : Int) ∧ nestGo (ops.drop j) a b = R
set_option maxRecDepth 100000 in
set_option maxHeartbeats 4000000 in
theorem nest_any (cv : Value) (code : List InsL) (w : World) (hc : CodeAt w cv code) (hl : code.length ≤ 1000000) :
    Calls Tryz.prog 29 #[cv] w fun e w' => e = .returned (.int .i64 (nestP code)) ∧ Below w.heap.size w w' := by
  obtain ⟨ca, ccap, hcv, hcl, hca⟩ := hc.form
  subst hcv
  obtain ⟨R, hR⟩ : ∃ R, nestP code = R := ⟨_, rfl⟩
  obtain ⟨N, hN⟩ : ∃ N, code.length = N := ⟨_, rfl⟩
  rw [hR, hN]
  have HR := Lib.hid hR
  have HN := Lib.hid hN
  have HCA := Lib.hid hca
  have hn6 : N ≤ 1000000 := by omega
  clear hc hca hR hl hcl
  go_enter Tryz.func29, Tryz.ntmps29
  go_wp2_with fail
  go_loopw [3, 4, 9] (fun nn mm ii wr => RelN (code.map InsL.op) R nn mm ii ∧ Below w.heap.size w wr) (fun _ _ ii _ => N - (intOf ii).toNat)
  case atStart => exact ⟨⟨0, 0, 0, Nat.zero_le _, rfl, rfl, rfl, by omega, by omega, by omega, by omega, HR.out⟩, Below.refl _ _⟩
  case round =>
    obtain ⟨⟨j, a, b, hj, rfl, rfl, rfl, h1, h2, h3, h4, hgo⟩, hb⟩ := hrel
    obtain ⟨Wj, rfl⟩ : ∃ Wj, Wj = wr := ⟨_, rfl⟩
    rw [List.length_map, HN.out] at hj
    have hwj : IntKind.i64.wrap ((j : Int) + 1) = (j : Int) + 1 := IntWalk.i64_in _ (by omega)
    by_cases hlt : j < N
    · obtain ⟨xi, hxi⟩ : ∃ xi, code[j]? = some xi := ⟨_, List.getElem?_eq_getElem (by have := HN.out; omega)⟩
      obtain ⟨rr, ⟨lv, hrr, hlv, hwf⟩, _, bc, offc, hcaa, hbc, hcc⟩ := HCA.out j xi hxi
      subst hcaa
      obtain ⟨lva, lvc, hlf⟩ := intsAt_form hlv
      subst hlf
      rw [hrr] at hcc
      have e0 : Wj.cell? ⟨bc, offc + j * 4, none⟩ = some (.int .i64 xi.op) := cell_later hb (hcc 0 _ rfl)
      have e1 : Wj.cell? ⟨bc, offc + j * 4 + 1, none⟩ = some (.int .i64 xi.a) := cell_later hb (hcc 1 _ rfl)
      have e2 : Wj.cell? ⟨bc, offc + j * 4 + 2, none⟩ = some (.int .i64 xi.b) := cell_later hb (hcc 2 _ rfl)
      have e3 : Wj.cell? ⟨bc, offc + j * 4 + 3, none⟩ = some (.slice lva xi.labels.length lvc) := cell_later hb (hcc 3 _ rfl)
      have hdj : (code.map InsL.op).drop j = xi.op :: (code.map InsL.op).drop (j + 1) := by
        have hlj : j < (code.map InsL.op).length := by rw [List.length_map]; have := HN.out; omega
        rw [List.drop_eq_getElem_cons hlj]
        congr 1
        rw [List.getElem_map]
        rw [(List.getElem?_eq_some_iff.1 hxi).2]
      rw [hdj, nestGo_cons] at hgo
      obtain ⟨op, hop⟩ : ∃ op, xi.op = op := ⟨_, rfl⟩
      rw [hop] at e0 hgo
      have hd2 : decide (j < N) = true := decide_eq_true hlt
      have hi0 : (0 : Int) ≤ (j : Int) := by omega
      have hi1 : (j : Int) < (N : Int) := by omega
      have BJ := Lib.hid (show Below w.heap.size w (Wj.alloc (.cells #[.int .i64 op, .int .i64 xi.a, .int .i64 xi.b, .slice lva xi.labels.length lvc] 29)) from hb.alloc hb.size _)
      obtain ⟨n1, hn1⟩ : ∃ n1, nestN op a = n1 := ⟨_, rfl⟩
      rw [hn1] at hgo
      have HGO := Lib.hid hgo
      have hwa1 : IntKind.i64.wrap (a + 1) = a + 1 := IntWalk.i64_in _ (by omega)
      have hwa2 : IntKind.i64.wrap (a - 1) = a - 1 := IntWalk.i64_in _ (by omega)
      clear hxi hrr hcc hdj hlv hgo hb hop hwf
      by_cases h23 : op = 2 ∨ op = 3 ∨ op = 4
      · have hn2 : n1 = a + 1 := by rw [← hn1]; unfold nestN; rw [if_pos h23]
        subst hn2
        clear hn1
        rcases h23 with rfl | rfl | rfl
        all_goals
          go_wp2_with fail
          go_roundw
          case rel => exact ⟨⟨j + 1, a + 1, max b (a + 1), by rw [List.length_map, HN.out]; omega, by go_num, rfl, rfl, by omega, by omega, by omega, by omega, HGO.out⟩, BJ.out⟩
          case measure => simp [intOf]; omega
      · have g2 : (op == 2) = false := beq_eq_false_iff_ne.2 (by omega)
        have g3 : (op == 3) = false := beq_eq_false_iff_ne.2 (by omega)
        have g4 : (op == 4) = false := beq_eq_false_iff_ne.2 (by omega)
        by_cases h11 : op = 11
        · have hn2 : n1 = a - 1 := by rw [← hn1]; unfold nestN; rw [if_neg h23, if_pos h11]
          subst hn2
          clear hn1
          subst h11
          go_wp2_with fail
          go_roundw
          case rel => exact ⟨⟨j + 1, a - 1, max b (a - 1), by rw [List.length_map, HN.out]; omega, by go_num, rfl, rfl, by omega, by omega, by omega, by omega, HGO.out⟩, BJ.out⟩
          case measure => simp [intOf]; omega
        · have g11 : (op == 11) = false := beq_eq_false_iff_ne.2 h11
          have hn2 : n1 = a := by rw [← hn1]; unfold nestN; rw [if_neg h23, if_neg h11]
          subst hn2
          go_wp2_with fail
          go_roundw
          case rel => exact ⟨⟨j + 1, n1, max b n1, by rw [List.length_map, HN.out]; omega, by go_num, rfl, rfl, by omega, by omega, by omega, by omega, HGO.out⟩, BJ.out⟩
          case measure => simp [intOf]; omega
    · obtain rfl : j = N := by omega
      have hd2 : decide (j < j) = false := by simp
      have hend : b = R := by
        rw [List.drop_of_length_le (by rw [List.length_map]; have := HN.out; omega)] at hgo
        exact hgo
      subst hend
      have BJ := Lib.hid hb
      clear hb hgo
      go_wp2_with fail
      go_ret
      exact ⟨rfl, BJ.out⟩
def startsB (m : ModP) : Bool :=
  if m.start < 0 then true else match m.funcs[m.start.toNat]? with
  | none => false
  | some f => match (if 0 ≤ f.ty then m.types[f.ty.toNat]? else none) with
    | none => false
    | some t => t.params.data.toList.isEmpty && t.results.data.toList.isEmpty
end Go.Proofs.YtmbgemcddjailaaGreatDoor.Vld

/- VldTn: Lemmas ahead of valid.starts, valid.Module. No condition beyond what each theorem names. -/
namespace Go.Proofs.YtmbgemcddjailaaGreatDoor.Vld
open Go.RowKit Go.Maps Go.Proofs.YtmbgemcddjailaaGreatDoor.Op Go.Proofs.YtmbgemcddjailaaGreatDoor.Mod
set_option linter.unusedVariables false
theorem funcOk_of {x : FuncP} (h : rightFunc x = true) (hl : x.code.length ≤ 1000000) : FuncOk x := by
  unfold rightFunc at h
  simp only [Bool.and_eq_true] at h
  obtain ⟨h1, h2, h3, h4⟩ := h
  refine ⟨(word_of h1).1, ?_, h4, h3, hl⟩
  unfold typesB at h2
  simp only [Bool.and_eq_true, decide_eq_true_eq] at h2
  omega
theorem typesOk_of {m : ModP} (h : allB m.types rightFT = true) : TypesOk m := by
  intro t ht
  unfold allB at h
  simp only [Bool.and_eq_true] at h
  have h1 := List.all_eq_true.1 h.2 t ht
  unfold rightFT typesB at h1
  simp only [Bool.and_eq_true, decide_eq_true_eq] at h1
  omega
theorem rightM_types {m : ModP} (h : rightM m = true) : allB m.types rightFT = true := by
  unfold rightM at h
  simp only [Bool.and_eq_true] at h
  exact h.2.1
theorem rightM_funcs {m : ModP} (h : rightM m = true) : ∀ x ∈ m.funcs, rightFunc x = true := by
  unfold rightM allB at h
  simp only [Bool.and_eq_true] at h
  exact List.all_eq_true.1 h.2.2.1.2
def funcE (m : ModP) (x : FuncP) : Int := if rightM { m with funcs := [x] } = false then 1 else if 256 < nestP x.code then 5 else if validF m x = false then 4 else 0
theorem four_new (W : World) (o0 o1 o2 o3 : Obj) : ∀ WF, ((((W.alloc o0).alloc o1).alloc o2).alloc o3) = WF → WF.heap[W.heap.size]? = some o0 ∧ WF.heap[W.heap.size + 1]? = some o1 ∧ WF.heap[W.heap.size + 1 + 1]? = some o2 ∧ WF.heap[W.heap.size + 1 + 1 + 1]? = some o3 ∧ Below W.heap.size W WF := by
  rintro WF rfl
  have b : Below W.heap.size W ((((W.alloc o0).alloc o1).alloc o2).alloc o3) := ((((Below.refl _ _).alloc (Nat.le_refl _) o0).alloc (by simp) o1).alloc (by simp; omega) o2).alloc (by simp; omega) o3
  have key : ∀ (V : World) (n : Nat) (o : Obj), V.heap.size = n → (V.alloc o).heap[n]? = some o := fun V n o h => by subst h; exact heap_alloc_new V o
  have old : ∀ (V : World) (n : Nat) (o q : Obj), V.heap[n]? = some q → (V.alloc o).heap[n]? = some q := fun V n o q h => (Below.heap_alloc V o n (Array.getElem?_eq_some_iff.1 h).1).trans h
  refine ⟨?_, ?_, ?_, ?_, b⟩
  · exact old _ _ _ _ (old _ _ _ _ (old _ _ _ _ (key _ _ _ rfl)))
  · exact old _ _ _ _ (old _ _ _ _ (key _ _ _ (by simp)))
  · exact old _ _ _ _ (key _ _ _ (by simp))
  · exact key _ _ _ (by simp)
theorem block_later {w w' : World} {b : Nat} {o : Obj} (h : w.heap[b]? = some o) (hb : Below w.heap.size w w') : w'.heap[b]? = some o := (hb.block b (Array.getElem?_eq_some_iff.1 h).1).trans h
theorem mod_cells {W : World} {b : Nat} {t f me g e st d : Value} (h : W.heap[b]? = some (.cells #[t, f, me, g, e, st, d] 41 (0, 0))) : W.cell? ⟨b, 0, none⟩ = some t ∧ W.cell? ⟨b, 1, none⟩ = some f ∧ W.cell? ⟨b, 2, none⟩ = some me ∧ W.cell? ⟨b, 3, none⟩ = some g ∧ W.cell? ⟨b, 4, none⟩ = some e ∧ W.cell? ⟨b, 5, none⟩ = some st ∧ W.cell? ⟨b, 6, none⟩ = some d :=
  ⟨(cell_of_row W _ _ _ _ _ h).trans rfl, (cell_of_row W _ _ _ _ _ h).trans rfl, (cell_of_row W _ _ _ _ _ h).trans rfl, (cell_of_row W _ _ _ _ _ h).trans rfl, (cell_of_row W _ _ _ _ _ h).trans rfl, (cell_of_row W _ _ _ _ _ h).trans rfl, (cell_of_row W _ _ _ _ _ h).trans rfl⟩
theorem func_cells {W : World} {b : Nat} {ty lo cv : Value} (h : W.heap[b]? = some (.cells #[ty, lo, cv] 32 (0, 0))) : W.cell? ⟨b, 0, none⟩ = some ty ∧ W.cell? ⟨b, 1, none⟩ = some lo ∧ W.cell? ⟨b, 2, none⟩ = some cv :=
  ⟨(cell_of_row W _ _ _ _ _ h).trans rfl, (cell_of_row W _ _ _ _ _ h).trans rfl, (cell_of_row W _ _ _ _ _ h).trans rfl⟩
end Go.Proofs.YtmbgemcddjailaaGreatDoor.Vld
