/-
  VldS, VldT in one.
-/
import Derived.Test.YthcjgdmmpopplaaGreatDoorVldFa
import Derived.Test.YthcjgdmmpopplaaGreatDoorModRight
/- VldS: What valid.Nest, valid.Func, valid.starts answer. No condition beyond what each theorem names. -/
namespace Go.Proofs.YthcjgdmmpopplaaGreatDoor.Vld
open Go.RowKit Go.Maps Go.Proofs.YthcjgdmmpopplaaGreatDoor.Op Go.Proofs.YthcjgdmmpopplaaGreatDoor.Mod
set_option linter.unusedVariables false
def nestN (o n : Int) : Int := if o = 2 ∨ o = 3 ∨ o = 4 then n + 1 else if o = 11 then n - 1 else n
theorem nestGo_cons (o : Int) (os : List Int) (n most : Int) : nestGo (o :: os) n most = nestGo os (nestN o n) (max most (nestN o n)) := by
  show nestGo os (nestN o n) (if most ≤ nestN o n then nestN o n else most) = _
  congr 1
def RelN (ops : List Int) (R : Int) (n m i : Value) : Prop := ∃ (j : Nat) (a b : Int), j ≤ ops.length ∧ i = .int .i64 (j : Int) ∧ n = .int .i64 a ∧ m = .int .i64 b ∧ -(j : Int) ≤ a ∧ a ≤ (j : Int) ∧ 0 ≤ b ∧ b ≤ (j : Int) ∧ nestGo (ops.drop j) a b = R
set_option maxRecDepth 100000 in
set_option maxHeartbeats 4000000 in
theorem nest_any (cv : Value) (code : List InsL) (w : World) (hc : CodeAt w cv code) (hl : code.length ≤ 1000000) :
    Calls Tryz.prog 13 #[cv] w fun e w' => e = .returned (.int .i64 (nestP code)) ∧ Below w.heap.size w w' := by
  obtain ⟨ca, ccap, hcv, hcl, hca⟩ := hc.form
  subst hcv
  obtain ⟨R, hR⟩ : ∃ R, nestP code = R := ⟨_, rfl⟩
  obtain ⟨N, hN⟩ : ∃ N, code.length = N := ⟨_, rfl⟩
  rw [hR, hN]
  have HR := Lib.hid hR
  have HN := Lib.hid hN
  have HCA := Lib.hid hca
  have hn6 : N ≤ 1000000 := by omega
  clear hc hca hR hl hcl
  go_enter Tryz.func13, Tryz.ntmps13
  go_wp2_with fail
  go_loopw [3, 4, 9] (fun nn mm ii wr => RelN (code.map InsL.op) R nn mm ii ∧ Below w.heap.size w wr) (fun _ _ ii _ => N - (intOf ii).toNat)
  case atStart => exact ⟨⟨0, 0, 0, Nat.zero_le _, rfl, rfl, rfl, by omega, by omega, by omega, by omega, HR.out⟩, Below.refl _ _⟩
  case round =>
    obtain ⟨⟨j, a, b, hj, rfl, rfl, rfl, h1, h2, h3, h4, hgo⟩, hb⟩ := hrel
    obtain ⟨Wj, rfl⟩ : ∃ Wj, Wj = wr := ⟨_, rfl⟩
    rw [List.length_map, HN.out] at hj
    have hwj : IntKind.i64.wrap ((j : Int) + 1) = (j : Int) + 1 := IntWalk.i64_in _ (by omega)
    by_cases hlt : j < N
    · obtain ⟨xi, hxi⟩ : ∃ xi, code[j]? = some xi := ⟨_, List.getElem?_eq_getElem (by have := HN.out; omega)⟩
      obtain ⟨rr, ⟨lv, hrr, hlv, hwf⟩, _, bc, offc, hcaa, hbc, hcc⟩ := HCA.out j xi hxi
      subst hcaa
      obtain ⟨lva, lvc, hlf⟩ := intsAt_form hlv
      subst hlf
      rw [hrr] at hcc
      have e0 : Wj.cell? ⟨bc, offc + j * 4, none⟩ = some (.int .i64 xi.op) := cell_later hb (hcc 0 _ rfl)
      have e1 : Wj.cell? ⟨bc, offc + j * 4 + 1, none⟩ = some (.int .i64 xi.a) := cell_later hb (hcc 1 _ rfl)
      have e2 : Wj.cell? ⟨bc, offc + j * 4 + 2, none⟩ = some (.int .i64 xi.b) := cell_later hb (hcc 2 _ rfl)
      have e3 : Wj.cell? ⟨bc, offc + j * 4 + 3, none⟩ = some (.slice lva xi.labels.length lvc) := cell_later hb (hcc 3 _ rfl)
      have hdj : (code.map InsL.op).drop j = xi.op :: (code.map InsL.op).drop (j + 1) := by
        have hlj : j < (code.map InsL.op).length := by rw [List.length_map]; have := HN.out; omega
        rw [List.drop_eq_getElem_cons hlj]
        congr 1
        rw [List.getElem_map]
        rw [(List.getElem?_eq_some_iff.1 hxi).2]
      rw [hdj, nestGo_cons] at hgo
      obtain ⟨op, hop⟩ : ∃ op, xi.op = op := ⟨_, rfl⟩
      rw [hop] at e0 hgo
      have hd2 : decide (j < N) = true := decide_eq_true hlt
      have hi0 : (0 : Int) ≤ (j : Int) := by omega
      have hi1 : (j : Int) < (N : Int) := by omega
      have BJ := Lib.hid (show Below w.heap.size w (Wj.alloc (.cells #[.int .i64 op, .int .i64 xi.a, .int .i64 xi.b, .slice lva xi.labels.length lvc] 38)) from hb.alloc hb.size _)
      obtain ⟨n1, hn1⟩ : ∃ n1, nestN op a = n1 := ⟨_, rfl⟩
      rw [hn1] at hgo
      have HGO := Lib.hid hgo
      have hwa1 : IntKind.i64.wrap (a + 1) = a + 1 := IntWalk.i64_in _ (by omega)
      have hwa2 : IntKind.i64.wrap (a - 1) = a - 1 := IntWalk.i64_in _ (by omega)
      clear hxi hrr hcc hdj hlv hgo hb hop hwf
      by_cases h23 : op = 2 ∨ op = 3 ∨ op = 4
      · have hn2 : n1 = a + 1 := by rw [← hn1]; unfold nestN; rw [if_pos h23]
        subst hn2
        clear hn1
        rcases h23 with rfl | rfl | rfl
        all_goals
          go_wp2_with fail
          go_roundw
          case rel => exact ⟨⟨j + 1, a + 1, max b (a + 1), by rw [List.length_map, HN.out]; omega, by go_num, rfl, rfl, by omega, by omega, by omega, by omega, HGO.out⟩, BJ.out⟩
          case measure => simp [intOf]; omega
      · have g2 : (op == 2) = false := beq_eq_false_iff_ne.2 (by omega)
        have g3 : (op == 3) = false := beq_eq_false_iff_ne.2 (by omega)
        have g4 : (op == 4) = false := beq_eq_false_iff_ne.2 (by omega)
        by_cases h11 : op = 11
        · have hn2 : n1 = a - 1 := by rw [← hn1]; unfold nestN; rw [if_neg h23, if_pos h11]
          subst hn2
          clear hn1
          subst h11
          go_wp2_with fail
          go_roundw
          case rel => exact ⟨⟨j + 1, a - 1, max b (a - 1), by rw [List.length_map, HN.out]; omega, by go_num, rfl, rfl, by omega, by omega, by omega, by omega, HGO.out⟩, BJ.out⟩
          case measure => simp [intOf]; omega
        · have g11 : (op == 11) = false := beq_eq_false_iff_ne.2 h11
          have hn2 : n1 = a := by rw [← hn1]; unfold nestN; rw [if_neg h23, if_neg h11]
          subst hn2
          go_wp2_with fail
          go_roundw
          case rel => exact ⟨⟨j + 1, n1, max b n1, by rw [List.length_map, HN.out]; omega, by go_num, rfl, rfl, by omega, by omega, by omega, by omega, HGO.out⟩, BJ.out⟩
          case measure => simp [intOf]; omega
    · obtain rfl : j = N := by omega
      have hd2 : decide (j < j) = false := by simp
      have hend : b = R := by
        rw [List.drop_of_length_le (by rw [List.length_map]; have := HN.out; omega)] at hgo
        exact hgo
      subst hend
      have BJ := Lib.hid hb
      clear hb hgo
      go_wp2_with fail
      go_ret
      exact ⟨rfl, BJ.out⟩
def startsB (m : ModP) : Bool :=
  if m.start < 0 then true else match m.funcs[m.start.toNat]? with
  | none => false
  | some f => match (if 0 ≤ f.ty then m.types[f.ty.toNat]? else none) with
    | none => false
    | some t => t.params.data.toList.isEmpty && t.results.data.toList.isEmpty
end Go.Proofs.YthcjgdmmpopplaaGreatDoor.Vld

/- VldT: What valid.Func, valid.starts answer. No condition beyond what each theorem names. -/
namespace Go.Proofs.YthcjgdmmpopplaaGreatDoor.Vld
open Go.RowKit Go.Maps Go.Proofs.YthcjgdmmpopplaaGreatDoor.Op Go.Proofs.YthcjgdmmpopplaaGreatDoor.Mod
set_option linter.unusedVariables false
theorem funcOk_of {x : FuncP} (h : rightFunc x = true) (hl : x.code.length ≤ 1000000) : FuncOk x := by
  unfold rightFunc at h
  simp only [Bool.and_eq_true] at h
  obtain ⟨h1, h2, h3, h4⟩ := h
  refine ⟨(word_of h1).1, ?_, h4, h3, hl⟩
  unfold typesB at h2
  simp only [Bool.and_eq_true, decide_eq_true_eq] at h2
  omega
theorem typesOk_of {m : ModP} (h : allB m.types rightFT = true) : TypesOk m := by
  intro t ht
  unfold allB at h
  simp only [Bool.and_eq_true] at h
  have h1 := List.all_eq_true.1 h.2 t ht
  unfold rightFT typesB at h1
  simp only [Bool.and_eq_true, decide_eq_true_eq] at h1
  omega
theorem rightM_types {m : ModP} (h : rightM m = true) : allB m.types rightFT = true := by
  unfold rightM at h
  simp only [Bool.and_eq_true] at h
  exact h.2.1
theorem rightM_funcs {m : ModP} (h : rightM m = true) : ∀ x ∈ m.funcs, rightFunc x = true := by
  unfold rightM allB at h
  simp only [Bool.and_eq_true] at h
  exact List.all_eq_true.1 h.2.2.1.2
def funcE (m : ModP) (x : FuncP) : Int := if rightM { m with funcs := [x] } = false then 1 else if 256 < nestP x.code then 5 else if validF m x = false then 4 else 0
theorem four_new (W : World) (o0 o1 o2 o3 : Obj) : ∀ WF, ((((W.alloc o0).alloc o1).alloc o2).alloc o3) = WF → WF.heap[W.heap.size]? = some o0 ∧ WF.heap[W.heap.size + 1]? = some o1 ∧ WF.heap[W.heap.size + 1 + 1]? = some o2 ∧ WF.heap[W.heap.size + 1 + 1 + 1]? = some o3 ∧ Below W.heap.size W WF := by
  rintro WF rfl
  have b : Below W.heap.size W ((((W.alloc o0).alloc o1).alloc o2).alloc o3) := ((((Below.refl _ _).alloc (Nat.le_refl _) o0).alloc (by simp) o1).alloc (by simp; omega) o2).alloc (by simp; omega) o3
  have key : ∀ (V : World) (n : Nat) (o : Obj), V.heap.size = n → (V.alloc o).heap[n]? = some o := fun V n o h => by subst h; exact heap_alloc_new V o
  have old : ∀ (V : World) (n : Nat) (o q : Obj), V.heap[n]? = some q → (V.alloc o).heap[n]? = some q := fun V n o q h => (Below.heap_alloc V o n (Array.getElem?_eq_some_iff.1 h).1).trans h
  refine ⟨?_, ?_, ?_, ?_, b⟩
  · exact old _ _ _ _ (old _ _ _ _ (old _ _ _ _ (key _ _ _ rfl)))
  · exact old _ _ _ _ (old _ _ _ _ (key _ _ _ (by simp)))
  · exact old _ _ _ _ (key _ _ _ (by simp))
  · exact key _ _ _ (by simp)
theorem block_later {w w' : World} {b : Nat} {o : Obj} (h : w.heap[b]? = some o) (hb : Below w.heap.size w w') : w'.heap[b]? = some o := (hb.block b (Array.getElem?_eq_some_iff.1 h).1).trans h
theorem mod_cells {W : World} {b : Nat} {t f me g e st d : Value} (h : W.heap[b]? = some (.cells #[t, f, me, g, e, st, d] 31 (0, 0))) : W.cell? ⟨b, 0, none⟩ = some t ∧ W.cell? ⟨b, 1, none⟩ = some f ∧ W.cell? ⟨b, 2, none⟩ = some me ∧ W.cell? ⟨b, 3, none⟩ = some g ∧ W.cell? ⟨b, 4, none⟩ = some e ∧ W.cell? ⟨b, 5, none⟩ = some st ∧ W.cell? ⟨b, 6, none⟩ = some d :=
  ⟨(cell_of_row W _ _ _ _ _ h).trans rfl, (cell_of_row W _ _ _ _ _ h).trans rfl, (cell_of_row W _ _ _ _ _ h).trans rfl, (cell_of_row W _ _ _ _ _ h).trans rfl, (cell_of_row W _ _ _ _ _ h).trans rfl, (cell_of_row W _ _ _ _ _ h).trans rfl, (cell_of_row W _ _ _ _ _ h).trans rfl⟩
theorem func_cells {W : World} {b : Nat} {ty lo cv : Value} (h : W.heap[b]? = some (.cells #[ty, lo, cv] 35 (0, 0))) : W.cell? ⟨b, 0, none⟩ = some ty ∧ W.cell? ⟨b, 1, none⟩ = some lo ∧ W.cell? ⟨b, 2, none⟩ = some cv :=
  ⟨(cell_of_row W _ _ _ _ _ h).trans rfl, (cell_of_row W _ _ _ _ _ h).trans rfl, (cell_of_row W _ _ _ _ _ h).trans rfl⟩
set_option maxRecDepth 100000 in
set_option maxHeartbeats 4000000 in
theorem func_any (t fv me g e : Value) (st : Int) (d : Value) (m : ModP) (w : World) (hM : ModAt w t fv me g e st d m) (hE : MEnv w) (x : FuncP) (cv : Value) (hc : CodeAt w cv x.code) (hz : x.locals.size ≤ 9223372036854775807) (hl : x.code.length ≤ 1000000) :
    Calls Tryz.prog 12 #[modV t fv me g e st d, .agg #[.int .i64 x.ty, .string x.locals, cv]] w fun en w' => en = .returned (.int .i64 (funcE m x)) ∧ Below w.heap.size w w' := by
  obtain ⟨ta, tc, htv, _, _⟩ := hM.types.form
  obtain ⟨fa, fc, hfv, _, _⟩ := hM.funcs.form
  obtain ⟨ma, mc, hmv, _, _⟩ := hM.memory.form
  obtain ⟨ga, gc, hgv, _, _⟩ := hM.globals.form
  obtain ⟨ea, ec, hev, _, _⟩ := hM.exports.form
  obtain ⟨da, dc, hdv, _, _⟩ := hM.data.form
  obtain ⟨ca, cc, hcv, _, _⟩ := hc.form
  subst htv hfv hmv hgv hev hdv hcv
  have HR := Lib.hid (fun (W : World) (b : Nat) (hb : Below w.heap.size w W) (hblk : W.heap[b]? = some (.cells #[.int .i64 x.ty, .string x.locals, .slice ca x.code.length cc] 35 (0, 0))) => rightM_any (.slice ta m.types.length tc) (.slice (some ⟨b, 0, none⟩) 1 1) (.slice ma m.memory.length mc) (.slice ga m.globals.length gc) (.slice ea m.exports.length ec) st (.slice da m.data.length dc) { m with funcs := [x] } W (hE.later hb) (by
    have h1 := hM.later hb
    refine ⟨h1.types, ?_, h1.memory, h1.globals, h1.exports, h1.start, h1.data⟩
    exact Pg.row_of_block hblk [x] 1 1 rfl (by simp) (fun i y hy => by
      have hi0 := (List.getElem?_eq_some_iff.1 hy).1
      obtain rfl : i = 0 := by simp at hi0; exact hi0
      obtain rfl : x = y := by simpa using hy
      exact ⟨⟨_, rfl, (hc.later lasts_ins hb), hz, by omega⟩, rfl⟩)))
  have HN := Lib.hid (fun (W : World) (hb : Below w.heap.size w W) => nest_any (.slice ca x.code.length cc) x.code W (hc.later lasts_ins hb) hl)
  have HV := Lib.hid (fun (W : World) (hb : Below w.heap.size w W) (h1 : FuncOk x) (h2 : TypesOk m) => valid_any (.slice ta m.types.length tc) (.slice fa m.funcs.length fc) (.slice ma m.memory.length mc) (.slice ga m.globals.length gc) (.slice ea m.exports.length ec) st (.slice da m.data.length dc) m W (hM.later hb) (opEnv_later hE.op hb) h2 x (.slice ca x.code.length cc) (hc.later lasts_ins hb) h1)
  unfold modV at HR HV ⊢
  have hcl : True := trivial
  obtain ⟨Q, hQ⟩ : ∃ Q, rightM { m with funcs := [x] } = Q := ⟨_, rfl⟩
  obtain ⟨NS, hNS⟩ : ∃ NS, nestP x.code = NS := ⟨_, rfl⟩
  obtain ⟨V, hV⟩ : ∃ V, validF m x = V := ⟨_, rfl⟩
  unfold funcE
  rw [hQ, hNS, hV]
  rw [hQ] at HR
  rw [hNS] at HN
  rw [hV] at HV
  have HQ := Lib.hid hQ
  clear hM hE hc hQ hNS hV
  cases Q
  · rw [if_pos rfl]
    go_enter Tryz.func12, Tryz.ntmps12
    go_wp2_with fail
    obtain ⟨W4, hW4⟩ : ∃ W4, ((((w.alloc (.cells #[.slice ta m.types.length tc, .slice fa m.funcs.length fc, .slice ma m.memory.length mc, .slice ga m.globals.length gc, .slice ea m.exports.length ec, .int .i64 st, .slice da m.data.length dc] 31)).alloc (.cells #[.int .i64 x.ty, .string x.locals, .slice ca x.code.length cc] 35)).alloc (.cells #[.slice ta m.types.length tc, .slice (some ⟨w.heap.size + 1 + 1 + 1, 0, none⟩) 1 1, .slice ma m.memory.length mc, .slice ga m.globals.length gc, .slice ea m.exports.length ec, .int .i64 st, .slice da m.data.length dc] 31)).alloc (.cells #[.int .i64 x.ty, .string x.locals, .slice ca x.code.length cc] 35)) = W4 := ⟨_, rfl⟩
    rw [hW4]
    obtain ⟨n0, n1, _, n3, b4⟩ := four_new _ _ _ _ _ _ hW4
    have N0 := Lib.hid n0
    have N1 := Lib.hid n1
    have B4 := Lib.hid b4
    refine (HR.out W4 _ b4 n3).mono ?_
    rintro en W5 ⟨rfl, b5⟩
    have B5 := Lib.hid (B4.out.trans (b5.mono B4.out.size))
    obtain ⟨f0, f1, f2⟩ := func_cells (block_later N1.out b5)
    obtain ⟨p0, p1, p2, p3, p4, p5, p6⟩ := mod_cells (block_later N0.out b5)
    have N0 := Lib.hid (block_later N0.out b5)
    have N1 := Lib.hid (block_later N1.out b5)
    clear hW4 n0 n1 n3 b4 b5
    go_wp2_with fail
    go_ret
    exact ⟨rfl, B5.out⟩
  · rw [if_neg (by decide)]
    have htypes := typesOk_of (rightM_types HQ.out)
    have hfok := funcOk_of (rightM_funcs HQ.out x (by simp)) hl
    have HV2 := Lib.hid (fun (W : World) (hb : Below w.heap.size w W) => HV.out W hb hfok (show TypesOk m from htypes))
    clear HV htypes hfok
    by_cases hns : 256 < NS
    · rw [if_pos hns]
      have hd : decide (256 < NS) = true := decide_eq_true hns
      go_enter Tryz.func12, Tryz.ntmps12
      go_wp2_with fail
      obtain ⟨W4, hW4⟩ : ∃ W4, ((((w.alloc (.cells #[.slice ta m.types.length tc, .slice fa m.funcs.length fc, .slice ma m.memory.length mc, .slice ga m.globals.length gc, .slice ea m.exports.length ec, .int .i64 st, .slice da m.data.length dc] 31)).alloc (.cells #[.int .i64 x.ty, .string x.locals, .slice ca x.code.length cc] 35)).alloc (.cells #[.slice ta m.types.length tc, .slice (some ⟨w.heap.size + 1 + 1 + 1, 0, none⟩) 1 1, .slice ma m.memory.length mc, .slice ga m.globals.length gc, .slice ea m.exports.length ec, .int .i64 st, .slice da m.data.length dc] 31)).alloc (.cells #[.int .i64 x.ty, .string x.locals, .slice ca x.code.length cc] 35)) = W4 := ⟨_, rfl⟩
      rw [hW4]
      obtain ⟨n0, n1, _, n3, b4⟩ := four_new _ _ _ _ _ _ hW4
      have N0 := Lib.hid n0
      have N1 := Lib.hid n1
      have B4 := Lib.hid b4
      refine (HR.out W4 _ b4 n3).mono ?_
      rintro en W5 ⟨rfl, b5⟩
      have B5 := Lib.hid (B4.out.trans (b5.mono B4.out.size))
      obtain ⟨f0, f1, f2⟩ := func_cells (block_later N1.out b5)
      obtain ⟨p0, p1, p2, p3, p4, p5, p6⟩ := mod_cells (block_later N0.out b5)
      have N0 := Lib.hid (block_later N0.out b5)
      have N1 := Lib.hid (block_later N1.out b5)
      clear hW4 n0 n1 n3 b4 b5
      go_wp2_with fail
      refine (HN.out W5 B5.out).mono ?_
      rintro en W6 ⟨rfl, b6⟩
      have B6 := Lib.hid (B5.out.trans (b6.mono B5.out.size))
      clear b6
      go_wp2_with fail
      go_ret
      exact ⟨rfl, B6.out⟩
    · rw [if_neg hns]
      have hd : decide (256 < NS) = false := decide_eq_false hns
      obtain ⟨vr, hvr⟩ : ∃ vr : Int, (if V = false then 4 else 0) = vr := ⟨_, rfl⟩
      rw [hvr]
      go_enter Tryz.func12, Tryz.ntmps12
      go_wp2_with fail
      obtain ⟨W4, hW4⟩ : ∃ W4, ((((w.alloc (.cells #[.slice ta m.types.length tc, .slice fa m.funcs.length fc, .slice ma m.memory.length mc, .slice ga m.globals.length gc, .slice ea m.exports.length ec, .int .i64 st, .slice da m.data.length dc] 31)).alloc (.cells #[.int .i64 x.ty, .string x.locals, .slice ca x.code.length cc] 35)).alloc (.cells #[.slice ta m.types.length tc, .slice (some ⟨w.heap.size + 1 + 1 + 1, 0, none⟩) 1 1, .slice ma m.memory.length mc, .slice ga m.globals.length gc, .slice ea m.exports.length ec, .int .i64 st, .slice da m.data.length dc] 31)).alloc (.cells #[.int .i64 x.ty, .string x.locals, .slice ca x.code.length cc] 35)) = W4 := ⟨_, rfl⟩
      rw [hW4]
      obtain ⟨n0, n1, _, n3, b4⟩ := four_new _ _ _ _ _ _ hW4
      have N0 := Lib.hid n0
      have N1 := Lib.hid n1
      have B4 := Lib.hid b4
      refine (HR.out W4 _ b4 n3).mono ?_
      rintro en W5 ⟨rfl, b5⟩
      have B5 := Lib.hid (B4.out.trans (b5.mono B4.out.size))
      obtain ⟨f0, f1, f2⟩ := func_cells (block_later N1.out b5)
      obtain ⟨p0, p1, p2, p3, p4, p5, p6⟩ := mod_cells (block_later N0.out b5)
      have N0 := Lib.hid (block_later N0.out b5)
      have N1 := Lib.hid (block_later N1.out b5)
      clear hW4 n0 n1 n3 b4 b5
      go_wp2_with fail
      refine (HN.out W5 B5.out).mono ?_
      rintro en W6 ⟨rfl, b6⟩
      have B6 := Lib.hid (B5.out.trans (b6.mono B5.out.size))
      obtain ⟨f0, f1, f2⟩ := func_cells (block_later N1.out b6)
      obtain ⟨p0, p1, p2, p3, p4, p5, p6⟩ := mod_cells (block_later N0.out b6)
      clear b6
      go_wp2_with fail
      refine (HV2.out W6 B6.out).mono ?_
      rintro en W7 ⟨rfl, b7⟩
      have B7 := Lib.hid (B6.out.trans (b7.mono B6.out.size))
      clear b7
      cases V
      · obtain rfl : (4 : Int) = vr := hvr
        go_wp2_with fail
        go_ret
        exact ⟨rfl, B7.out⟩
      · obtain rfl : (0 : Int) = vr := hvr
        go_wp2_with fail
        go_ret
        exact ⟨rfl, B7.out⟩
end Go.Proofs.YthcjgdmmpopplaaGreatDoor.Vld
