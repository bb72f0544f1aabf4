/-
  What package module's Structured answers of code that is blocks in one another. No condition beyond what each theorem names.
-/
import Derived.Test.YtlbgbpgjccbbjaaDoorAsmK
namespace Go.Proofs.YtlbgbpgjccbbjaaDoor.Asm
open Go.RowKit Go.Maps Go.Proofs.YtlbgbpgjccbbjaaDoor.Op
set_option linter.unusedVariables false
/-- what is open behind an instruction -/
def stepS (st : List Int) (o : Int) : Option (List Int) :=
  if o = 2 ∨ o = 3 ∨ o = 4 then some (st ++ [o]) else if o = 5 then (if st.getLast? = some 4 then some (st.dropLast ++ [5]) else none) else if o = 11 then (if st = [] then none else some st.dropLast) else some st
def runS : List Int → List Int → Option (List Int)
  | st, [] => some st
  | st, o :: os => (stepS st o).bind fun s => runS s os
theorem runS_append : ∀ (a b st : List Int), runS st (a ++ b) = (runS st a).bind fun s => runS s b
  | [], b, st => rfl
  | o :: a, b, st => by
    show (stepS st o).bind (fun s => runS s (a ++ b)) = ((stepS st o).bind fun s => runS s a).bind fun s => runS s b
    cases stepS st o with
    | none => rfl
    | some s => exact runS_append a b s
theorem runS_one (st : List Int) (o : Int) : runS st [o] = stepS st o := by
  show (stepS st o).bind (fun s => some s) = _
  cases stepS st o <;> rfl
theorem runS_take {l : List Int} {st : List Int} {e : List Int} (h : runS st l = some e) (k : Nat) : ∃ s, runS st (l.take k) = some s := by
  rw [← List.take_append_drop k l, runS_append] at h
  cases hs : runS st (l.take k) with
  | none => rw [hs] at h; cases h
  | some s => exact ⟨s, rfl⟩
def intsV (l : List Int) : List Value := l.map (Value.int .i64)
theorem info_int : (Tryd.prog.info? 3).map (fun i => (i.zero, i.size, i.bytes)) = some (some (.int .i64 0), 1, 8) := by kernel_rfl
theorem one_int (l : List Int) : ∀ u ∈ intsV l, u.oneCell' = true := by
  intro u hu
  obtain ⟨x, _, rfl⟩ := List.mem_map.1 hu
  rfl
theorem ints_at2 {w : World} {B g n cap : Nat} {l : List Int} (h : w.ownsRow B 3 1 (.slice (some ⟨g, 0, none⟩) n cap) n (intsV l)) {j : Nat} {x : Int} (hx : l[j]? = some x) : w.cell? ⟨g, j, none⟩ = some (.int .i64 x) := by
  have hj : j < l.length := (List.getElem?_eq_some_iff.1 hx).1
  have hl := h.1
  rw [show (intsV l).length = l.length by simp [intsV]] at hl
  rw [h.cellAt j (by omega)]
  simp [intsV, hx]
def RelT (w : World) (l : List Ins) (v i : Value) (wr : World) : Prop := ∃ (k : Nat) (st : List Int), k ≤ l.length ∧ i = .int .i64 k ∧ runS [] ((l.take k).map Ins.op) = some st ∧ st.length ≤ k ∧ wr.ownsRow w.heap.size 3 1 v st.length (intsV st) ∧ Below w.heap.size w wr
theorem step_len {st s' : List Int} {o : Int} (h : stepS st o = some s') : s'.length ≤ st.length + 1 := by
  unfold stepS at h
  split at h
  · cases h; simp
  · split at h
    · split at h
      · cases h
        rw [List.length_append, List.length_dropLast]
        simp
      · cases h
    · split at h
      · split at h
        · cases h
        · cases h
          rw [List.length_dropLast]
          omega
      · cases h
        omega
set_option maxRecDepth 100000 in
set_option maxHeartbeats 4000000 in
theorem struct_yes (l : List Ins) (g cap : Nat) (w : World) (hl : l.length < 1000000) (hg : g < w.heap.size) (hrun : runS [] (l.map Ins.op) = some []) (hc : ∀ k m, (l ++ [⟨11, 0, 0⟩])[k]? = some m → ∀ j, j < 4 → w.cell? ⟨g, k * 4 + j, none⟩ = m.cells[j]?) :
    Calls Tryd.prog 35 #[.slice (some ⟨g, 0, none⟩) (l.length + 1) cap] w fun e w' => e = .returned (.bool true) ∧ Below w.heap.size w w' := by
  obtain ⟨i0, hi, hz0, hz1, hz2⟩ := info_of info_int
  have HC := Lib.hid hc
  have HR := Lib.hid hrun
  clear hc hrun
  go_enter Tryd.func35, Tryd.ntmps35
  go_wp2_with fail
  go_loopw [3, 9] (fun v i wr => RelT w l v i wr) (fun _ i _ => l.length + 1 - (intOf i).toNat)
  case atStart => exact ⟨0, [], Nat.zero_le _, rfl, rfl, Nat.le_refl _, World.ownsRow_nil _ _ _ _, Below.refl _ _⟩
  case round =>
    obtain ⟨k, st, hk, rfl, hst, hsl, hown, hB⟩ := hrel
    have HB := Lib.hid hB
    have HO := Lib.hid hown
    have HST := Lib.hid hst
    clear hst
    have hd : decide ((k : Int) < (l.length : Int) + 1) = true := decide_eq_true (by omega)
    by_cases hlt : k < l.length
    · obtain ⟨⟨o, xa, xb⟩, hm⟩ : ∃ m, l[k]? = some m := ⟨_, List.getElem?_eq_getElem hlt⟩
      have hm2 : (l ++ [(⟨11, 0, 0⟩ : Ins)])[k]? = some ⟨o, xa, xb⟩ := by rw [List.getElem?_append_left hlt]; exact hm
      have c0 : wr.cell? ⟨g, k * 4, none⟩ = some (.int .i64 o) := cell_later hB (HC.out k _ hm2 0 (by decide))
      have c1 : wr.cell? ⟨g, k * 4 + 1, none⟩ = some (.int .i64 xa) := cell_later hB (HC.out k _ hm2 1 (by decide))
      have c2 : wr.cell? ⟨g, k * 4 + 2, none⟩ = some (.int .i64 xb) := cell_later hB (HC.out k _ hm2 2 (by decide))
      have c3 : wr.cell? ⟨g, k * 4 + 3, none⟩ = some (.slice none 0 0) := cell_later hB (HC.out k _ hm2 3 (by decide))
      obtain ⟨s', hs'⟩ : ∃ s', stepS st o = some s' := by
        obtain ⟨s', hs'⟩ := runS_take HR.out (k + 1)
        rw [← List.map_take, List.take_add_one, hm] at hs'
        simp only [Option.toList_some, List.map_append, List.map_cons, List.map_nil] at hs'
        rw [runS_append, HST.out] at hs'
        exact ⟨s', (runS_one st o) ▸ hs'⟩
      have hnext : runS [] ((l.take (k + 1)).map Ins.op) = some s' := by
        rw [List.take_add_one, hm]
        simp only [Option.toList_some, List.map_append, List.map_cons, List.map_nil]
        rw [runS_append, HST.out]
        exact (runS_one st o).trans hs'
      have HN := Lib.hid hnext
      have HS' := Lib.hid hs'
      have hsl' : s'.length ≤ k + 1 := Nat.le_trans (step_len hs') (by omega)
      obtain ⟨va, vc, hv⟩ : ∃ a c, u3 = .slice a st.length c := by
        rcases hown.2 with ⟨h1, h2⟩ | ⟨gg, cc, cur, h1, _⟩
        · exact ⟨none, 0, by rw [h2]; exact h1⟩
        · exact ⟨_, cc, h1⟩
      subst hv
      clear hm hm2 hs' hnext hown hB
      have hbox : wr.heap.size < (wr.alloc (.cells #[.int .i64 o, .int .i64 xa, .int .i64 xb, .slice none 0 0] 36)).heap.size := by simp
      rcases (show o = 2 ∨ o = 3 ∨ o = 4 ∨ o = 5 ∨ o = 11 ∨ (o ≠ 2 ∧ o ≠ 3 ∧ o ≠ 4 ∧ o ≠ 5 ∧ o ≠ 11) by omega) with ho | ho | ho | ho | ho | ⟨g2, g3, g4, g5, g11⟩
      · have q2 : (o == 2) = true := by rw [ho]; rfl
        have q3 : (o == 3) = false := by rw [ho]; rfl
        have q4 : (o == 4) = false := by rw [ho]; rfl
        have q5 : (o == 5) = false := by rw [ho]; rfl
        have q11 : (o == 11) = false := by rw [ho]; rfl
        obtain rfl : s' = st ++ [o] := by have h := HS'.out; unfold stepS at h; rw [if_pos (by omega)] at h; exact (Option.some.inj h).symm
        clear ho
        go_wp2_with (at_builtin; refine wpList_append_own _ rfl _ _ 34 rfl w.heap.size 3 i0 (.int .i64 0) 1 8 Tryd.underlying34 hi hz0 hz1 hz2 rfl (by decide) _ _ _ rfl ((HO.out.alloc (.cells #[.int .i64 o, .int .i64 xa, .int .i64 xb, .slice none 0 0] 36)).alloc _) ⟨wr.heap.size + 1, 0, none⟩ 1 1 [.int .i64 o] rfl rfl ?c1 ?c2 ?c3 ?c4 ?c5 ?_)
        case c1 =>
          intro j u hj
          rw [show (⟨wr.heap.size + 1, 0, none⟩ : Addr).add j = ⟨wr.heap.size + 1, j, none⟩ by rw [Addr.add_lit, Nat.zero_add], World.cell?_alloc_at _ _ _ _ (by simp), ← hj]
          simp
        case c2 => exact one_int [o]
        case c3 => unfold maxLen; omega
        case c4 => omega
        case c5 => have := HB.out.size; simp; omega
        intro v' w1 hown1 hgrow _
        have HO1 := Lib.hid (show w1.ownsRow w.heap.size 3 1 v' (st ++ [o]).length (intsV (st ++ [o])) by rw [List.length_append]; unfold intsV; rw [List.map_append]; exact hown1)
        have HB1 := Lib.hid (((HB.out.alloc HB.out.size (.cells #[.int .i64 o, .int .i64 xa, .int .i64 xb, .slice none 0 0] 36)).alloc (by have := HB.out.size; simp; omega) _).grown hgrow (by have := HB.out.size; simp; omega) (fun k hk => (HO.out.lt k hk).1))
        clear hown1 hgrow
        go_wp2_with fail
        go_roundw
        case rel => exact ⟨k + 1, st ++ [o], by omega, by go_num, HN.out, hsl', HO1.out, HB1.out⟩
        case measure => simp [intOf]; omega
      · have q2 : (o == 2) = false := by rw [ho]; rfl
        have q3 : (o == 3) = true := by rw [ho]; rfl
        have q4 : (o == 4) = false := by rw [ho]; rfl
        have q5 : (o == 5) = false := by rw [ho]; rfl
        have q11 : (o == 11) = false := by rw [ho]; rfl
        obtain rfl : s' = st ++ [o] := by have h := HS'.out; unfold stepS at h; rw [if_pos (by omega)] at h; exact (Option.some.inj h).symm
        clear ho
        go_wp2_with (at_builtin; refine wpList_append_own _ rfl _ _ 34 rfl w.heap.size 3 i0 (.int .i64 0) 1 8 Tryd.underlying34 hi hz0 hz1 hz2 rfl (by decide) _ _ _ rfl ((HO.out.alloc (.cells #[.int .i64 o, .int .i64 xa, .int .i64 xb, .slice none 0 0] 36)).alloc _) ⟨wr.heap.size + 1, 0, none⟩ 1 1 [.int .i64 o] rfl rfl ?c1 ?c2 ?c3 ?c4 ?c5 ?_)
        case c1 =>
          intro j u hj
          rw [show (⟨wr.heap.size + 1, 0, none⟩ : Addr).add j = ⟨wr.heap.size + 1, j, none⟩ by rw [Addr.add_lit, Nat.zero_add], World.cell?_alloc_at _ _ _ _ (by simp), ← hj]
          simp
        case c2 => exact one_int [o]
        case c3 => unfold maxLen; omega
        case c4 => omega
        case c5 => have := HB.out.size; simp; omega
        intro v' w1 hown1 hgrow _
        have HO1 := Lib.hid (show w1.ownsRow w.heap.size 3 1 v' (st ++ [o]).length (intsV (st ++ [o])) by rw [List.length_append]; unfold intsV; rw [List.map_append]; exact hown1)
        have HB1 := Lib.hid (((HB.out.alloc HB.out.size (.cells #[.int .i64 o, .int .i64 xa, .int .i64 xb, .slice none 0 0] 36)).alloc (by have := HB.out.size; simp; omega) _).grown hgrow (by have := HB.out.size; simp; omega) (fun k hk => (HO.out.lt k hk).1))
        clear hown1 hgrow
        go_wp2_with fail
        go_roundw
        case rel => exact ⟨k + 1, st ++ [o], by omega, by go_num, HN.out, hsl', HO1.out, HB1.out⟩
        case measure => simp [intOf]; omega
      · have q2 : (o == 2) = false := by rw [ho]; rfl
        have q3 : (o == 3) = false := by rw [ho]; rfl
        have q4 : (o == 4) = true := by rw [ho]; rfl
        have q5 : (o == 5) = false := by rw [ho]; rfl
        have q11 : (o == 11) = false := by rw [ho]; rfl
        obtain rfl : s' = st ++ [o] := by have h := HS'.out; unfold stepS at h; rw [if_pos (by omega)] at h; exact (Option.some.inj h).symm
        clear ho
        go_wp2_with (at_builtin; refine wpList_append_own _ rfl _ _ 34 rfl w.heap.size 3 i0 (.int .i64 0) 1 8 Tryd.underlying34 hi hz0 hz1 hz2 rfl (by decide) _ _ _ rfl ((HO.out.alloc (.cells #[.int .i64 o, .int .i64 xa, .int .i64 xb, .slice none 0 0] 36)).alloc _) ⟨wr.heap.size + 1, 0, none⟩ 1 1 [.int .i64 o] rfl rfl ?c1 ?c2 ?c3 ?c4 ?c5 ?_)
        case c1 =>
          intro j u hj
          rw [show (⟨wr.heap.size + 1, 0, none⟩ : Addr).add j = ⟨wr.heap.size + 1, j, none⟩ by rw [Addr.add_lit, Nat.zero_add], World.cell?_alloc_at _ _ _ _ (by simp), ← hj]
          simp
        case c2 => exact one_int [o]
        case c3 => unfold maxLen; omega
        case c4 => omega
        case c5 => have := HB.out.size; simp; omega
        intro v' w1 hown1 hgrow _
        have HO1 := Lib.hid (show w1.ownsRow w.heap.size 3 1 v' (st ++ [o]).length (intsV (st ++ [o])) by rw [List.length_append]; unfold intsV; rw [List.map_append]; exact hown1)
        have HB1 := Lib.hid (((HB.out.alloc HB.out.size (.cells #[.int .i64 o, .int .i64 xa, .int .i64 xb, .slice none 0 0] 36)).alloc (by have := HB.out.size; simp; omega) _).grown hgrow (by have := HB.out.size; simp; omega) (fun k hk => (HO.out.lt k hk).1))
        clear hown1 hgrow
        go_wp2_with fail
        go_roundw
        case rel => exact ⟨k + 1, st ++ [o], by omega, by go_num, HN.out, hsl', HO1.out, HB1.out⟩
        case measure => simp [intOf]; omega
      · have q2 : (o == 2) = false := by rw [ho]; rfl
        have q3 : (o == 3) = false := by rw [ho]; rfl
        have q4 : (o == 4) = false := by rw [ho]; rfl
        have q5 : (o == 5) = true := by rw [ho]; rfl
        have q11 : (o == 11) = false := by rw [ho]; rfl
        obtain ⟨s0, rfl, rfl⟩ : ∃ s0, st = s0 ++ [4] ∧ s' = s0 ++ [5] := by
          have h := HS'.out
          unfold stepS at h
          rw [if_neg (by omega), if_pos ho] at h
          split at h
          · rename_i hg4
            rcases List.eq_nil_or_concat st with he | ⟨s0, x, he⟩
            · rw [he] at hg4; cases hg4
            · rw [List.concat_eq_append] at he
              subst he
              simp only [List.getLast?_append, List.getLast?_singleton, Option.some_or, Option.some.injEq] at hg4
              subst hg4
              exact ⟨s0, rfl, by have := (Option.some.inj h).symm; simpa using this⟩
          · cases h
        have hlen : (s0 ++ [(4 : Int)]).length = s0.length + 1 := by simp
        obtain ⟨gg, cc, hform⟩ := Go.Joins.ownsRow_form HO.out (by omega)
        simp only [Value.slice.injEq] at hform
        obtain ⟨rfl, _, rfl⟩ := hform
        have hgl := (HO.out.lt gg rfl)
        have d0 : wr.cell? ⟨gg, s0.length, none⟩ = some (.int .i64 4) := ints_at2 HO.out (by simp)
        have f0 : wr.frozen? ⟨gg, s0.length, none⟩ = false := HO.out.frozenAt _
        have hgl2 := hgl.2
        have hst2 := HO.out.stored s0.length (.int .i64 5)
        have HO1 := Lib.hid (show ((wr.setCell ⟨gg, s0.length, none⟩ (.int .i64 5)).alloc (.cells #[.int .i64 o, .int .i64 xa, .int .i64 xb, .slice none 0 0] 36)).ownsRow w.heap.size 3 1 (.slice (some ⟨gg, 0, none⟩) (s0.length + 1) vc) (s0 ++ [5]).length (intsV (s0 ++ [5])) by
          have h := hst2.1
          rw [show (intsV (s0 ++ [4])).set s0.length (.int .i64 5) = intsV (s0 ++ [5]) by unfold intsV; rw [List.map_append, List.map_append, List.set_append_right _ _ (by simp)]; simp] at h
          rw [hlen] at h
          rw [show (s0 ++ [(5 : Int)]).length = s0.length + 1 by simp]
          exact h.alloc _)
        have hB5 := HB.out.setCell (p := ⟨gg, s0.length, none⟩) hgl.1 (.int .i64 5)
        have HB1 := Lib.hid (hB5.alloc hB5.size (.cells #[.int .i64 o, .int .i64 xa, .int .i64 xb, .slice none 0 0] 36))
        rw [hlen]
        have hlx : s0.length < 1000000 := by omega
        clear ho hst2 hgl hB5
        go_wp2_with fail
        go_roundw
        case rel => exact ⟨k + 1, s0 ++ [5], by omega, by go_num, HN.out, hsl', HO1.out, HB1.out⟩
        case measure => simp [intOf]; omega
      · have q2 : (o == 2) = false := by rw [ho]; rfl
        have q3 : (o == 3) = false := by rw [ho]; rfl
        have q4 : (o == 4) = false := by rw [ho]; rfl
        have q5 : (o == 5) = false := by rw [ho]; rfl
        have q11 : (o == 11) = true := by rw [ho]; rfl
        obtain ⟨s0, x, rfl, rfl⟩ : ∃ s0 x, st = s0 ++ [x] ∧ s' = s0 := by
          have h := HS'.out
          unfold stepS at h
          rw [if_neg (by omega), if_neg (by omega), if_pos ho] at h
          split at h
          · cases h
          · rename_i hne
            rcases List.eq_nil_or_concat st with he | ⟨s0, x, he⟩
            · exact absurd he hne
            · rw [List.concat_eq_append] at he
              subst he
              exact ⟨s0, x, rfl, by have := (Option.some.inj h).symm; simpa using this⟩
        have hlen : (s' ++ [x]).length = s'.length + 1 := by simp
        obtain ⟨gg, cc, hform⟩ := Go.Joins.ownsRow_form HO.out (by omega)
        simp only [Value.slice.injEq] at hform
        obtain ⟨rfl, _, rfl⟩ := hform
        have hcap : s'.length + 1 ≤ vc := by
          rcases HO.out.2 with ⟨h', _⟩ | ⟨g', cap', cur, h', _, _, hc, _⟩
          · simp at h'
          · simp only [Value.slice.injEq] at h'
            omega
        have HO1 := Lib.hid (show (wr.alloc (.cells #[.int .i64 o, .int .i64 xa, .int .i64 xb, .slice none 0 0] 36)).ownsRow w.heap.size 3 1 (.slice (some ⟨gg, 0, none⟩) s'.length vc) s'.length (intsV s') by
          have h := ownsRow_take (HO.out.alloc (.cells #[.int .i64 o, .int .i64 xa, .int .i64 xb, .slice none 0 0] 36)) (m := s'.length) (by omega)
          rw [Nat.mul_one] at h
          unfold intsV at h
          rw [List.map_append, List.take_left' (by simp)] at h
          exact h)
        have HB1 := Lib.hid (HB.out.alloc HB.out.size (.cells #[.int .i64 o, .int .i64 xa, .int .i64 xb, .slice none 0 0] 36))
        rw [hlen]
        have hlx : s'.length < 1000000 := by omega
        clear ho
        go_wp2_with fail
        go_roundw
        case rel => exact ⟨k + 1, s', by omega, by go_num, HN.out, hsl', HO1.out, HB1.out⟩
        case measure => simp [intOf]; omega
      · have q2 : (o == 2) = false := beq_eq_false_iff_ne.2 g2
        have q3 : (o == 3) = false := beq_eq_false_iff_ne.2 g3
        have q4 : (o == 4) = false := beq_eq_false_iff_ne.2 g4
        have q5 : (o == 5) = false := beq_eq_false_iff_ne.2 g5
        have q11 : (o == 11) = false := beq_eq_false_iff_ne.2 g11
        obtain rfl : s' = st := by have h := HS'.out; unfold stepS at h; rw [if_neg (by omega), if_neg g5, if_neg g11] at h; exact (Option.some.inj h).symm
        have HO1 := Lib.hid (HO.out.alloc (.cells #[.int .i64 o, .int .i64 xa, .int .i64 xb, .slice none 0 0] 36))
        have HB1 := Lib.hid (HB.out.alloc HB.out.size (.cells #[.int .i64 o, .int .i64 xa, .int .i64 xb, .slice none 0 0] 36))
        have hlx : s'.length < 1000000 := by omega
        clear g2 g3 g4 g5 g11
        go_wp2_with fail
        go_roundw
        case rel => exact ⟨k + 1, s', by omega, by go_num, HN.out, hsl', HO1.out, HB1.out⟩
        case measure => simp [intOf]; omega
    · obtain rfl : k = l.length := by omega
      have hm2 : (l ++ [(⟨11, 0, 0⟩ : Ins)])[l.length]? = some ⟨11, 0, 0⟩ := by simp
      have c0 : wr.cell? ⟨g, l.length * 4, none⟩ = some (.int .i64 11) := cell_later hB (HC.out _ _ hm2 0 (by decide))
      have c1 : wr.cell? ⟨g, l.length * 4 + 1, none⟩ = some (.int .i64 0) := cell_later hB (HC.out _ _ hm2 1 (by decide))
      have c2 : wr.cell? ⟨g, l.length * 4 + 2, none⟩ = some (.int .i64 0) := cell_later hB (HC.out _ _ hm2 2 (by decide))
      have c3 : wr.cell? ⟨g, l.length * 4 + 3, none⟩ = some (.slice none 0 0) := cell_later hB (HC.out _ _ hm2 3 (by decide))
      obtain rfl : st = [] := by
        have h := HST.out
        rw [List.take_of_length_le (Nat.le_refl _), HR.out] at h
        exact (Option.some.inj h).symm
      obtain ⟨va, vc, hv⟩ : ∃ a c, u3 = .slice a 0 c := by
        rcases hown.2 with ⟨h1, h2⟩ | ⟨gg, cc, cur, h1, _⟩
        · exact ⟨none, 0, h1⟩
        · exact ⟨_, cc, h1⟩
      subst hv
      clear hm2 hown hB
      go_wp2_with fail
      go_ret
      exact ⟨rfl, HB.out.alloc HB.out.size _⟩
end Go.Proofs.YtlbgbpgjccbbjaaDoor.Asm
