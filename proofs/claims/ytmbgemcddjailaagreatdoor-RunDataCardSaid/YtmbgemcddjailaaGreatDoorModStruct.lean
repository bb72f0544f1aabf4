/-
  What package module's Structured answers of any code. No condition but that the code has room.
-/
import Derived.Test.YtmbgemcddjailaaGreatDoorModMem
import Derived.Deep.Onto
import Derived.Lib.SmallJoins
namespace Go.Proofs.YtmbgemcddjailaaGreatDoor.Mod
open Go.RowKit Go.Maps Go.Proofs.YtmbgemcddjailaaGreatDoor.Op
set_option linter.unusedVariables false
def opsOf (l : List InsL) : List Int := l.map InsL.op
theorem ops_drop {l : List InsL} {k : Nat} {x : InsL} (h : l[k]? = some x) : (opsOf l).drop k = x.op :: (opsOf l).drop (k + 1) := by
  have hk : k < (opsOf l).length := by have := (List.getElem?_eq_some_iff.1 h).1; simpa [opsOf] using this
  rw [List.drop_eq_getElem_cons hk]
  congr 1
  have := (List.getElem?_eq_some_iff.1 h).2
  simp [opsOf, this]
theorem structB_go {st s : List Int} {o : Int} {os : List Int} (h : stepS st o = some s) (hne : ¬ (o = 11 ∧ st = [])) : structB st (o :: os) = structB s os := by
  show (if o = 11 ∧ st = [] then os.isEmpty else match stepS st o with | none => false | some s => structB s os) = _
  rw [if_neg hne, h]
theorem structB_bad {st : List Int} {o : Int} {os : List Int} (h : stepS st o = none) (hne : ¬ (o = 11 ∧ st = [])) : structB st (o :: os) = false := by
  show (if o = 11 ∧ st = [] then os.isEmpty else match stepS st o with | none => false | some s => structB s os) = _
  rw [if_neg hne, h]
theorem structB_end (os : List Int) : structB [] (11 :: os) = os.isEmpty := by
  show (if (11 : Int) = 11 ∧ ([] : List Int) = [] then os.isEmpty else _) = _
  rw [if_pos ⟨rfl, rfl⟩]
def RelT (w : World) (l : List InsL) (v i : Value) (wr : World) : Prop := ∃ (k : Nat) (st : List Int), k ≤ l.length ∧ i = .int .i64 k ∧ structB [] (opsOf l) = structB st ((opsOf l).drop k) ∧ st.length ≤ k ∧ wr.ownsRow w.heap.size 3 1 v st.length (intsV st) ∧ Below w.heap.size w wr
set_option maxRecDepth 100000 in
set_option maxHeartbeats 8000000 in
theorem struct_any (l : List InsL) (v : Value) (w : World) (hc : CodeAt w v l) (hroom : l.length * 48 ≤ 140737488355328) :
    Calls Tryz.prog 61 #[v] w fun e w' => e = .returned (.bool (structB [] (opsOf l))) ∧ Below w.heap.size w w' := by
  obtain ⟨la, cp, rfl, hle, hx⟩ := hc.form
  obtain ⟨i0, hi, hz0, hz1, hz2⟩ := info_parts info_int
  have HX := Lib.hid hx
  clear hx hc
  obtain ⟨ANS, hANS⟩ : ∃ ANS, structB [] (opsOf l) = ANS := ⟨_, rfl⟩
  have HANS := Lib.hid hANS
  rw [hANS]
  clear hANS
  go_enter Tryz.func61, Tryz.ntmps61
  go_wp2_with fail
  go_loopw [3, 9] (fun v i wr => RelT w l v i wr) (fun _ i _ => l.length + 1 - (intOf i).toNat)
  case atStart => exact ⟨0, [], Nat.zero_le _, rfl, rfl, Nat.le_refl _, World.ownsRow_nil _ _ _ _, Below.refl _ _⟩
  case round =>
    obtain ⟨k, st, hk, rfl, hst, hsl, hown, hB⟩ := hrel
    have HB := Lib.hid hB
    have HO := Lib.hid hown
    have HST := Lib.hid hst
    clear hst
    by_cases hlt : k < l.length
    · have hd : decide ((k : Int) < (l.length : Int)) = true := decide_eq_true (by omega)
      have hd2 : decide (k < l.length) = true := decide_eq_true hlt
      obtain ⟨⟨o, xa, xb, ls⟩, hm⟩ : ∃ m, l[k]? = some m := ⟨_, List.getElem?_eq_getElem hlt⟩
      obtain ⟨r, ⟨lv, rfl, hil, _⟩, _, b, off, rfl, hb, hcell⟩ := HX.out k _ hm
      obtain ⟨lva, lvc, rfl⟩ := intsAt_form hil
      have c0 : wr.cell? ⟨b, off + k * 4, none⟩ = some (.int .i64 o) := cell_later hB (hcell 0 _ rfl)
      have c1 : wr.cell? ⟨b, off + k * 4 + 1, none⟩ = some (.int .i64 xa) := cell_later hB (hcell 1 _ rfl)
      have c2 : wr.cell? ⟨b, off + k * 4 + 2, none⟩ = some (.int .i64 xb) := cell_later hB (hcell 2 _ rfl)
      have c3 : wr.cell? ⟨b, off + k * 4 + 3, none⟩ = some (.slice lva ls.length lvc) := cell_later hB (hcell 3 _ rfl)
      have HD := Lib.hid (show (opsOf l).drop k = o :: (opsOf l).drop (k + 1) from ops_drop hm)
      obtain ⟨va, vc, hv⟩ : ∃ a c, u3 = .slice a st.length c := by
        rcases hown.2 with ⟨h1, h2⟩ | ⟨gg, cc, cur, h1, _⟩
        · exact ⟨none, 0, by rw [h2]; exact h1⟩
        · exact ⟨_, cc, h1⟩
      subst hv
      clear hm hown hB hcell hil
      have hbox : wr.heap.size < (wr.alloc (.cells #[.int .i64 o, .int .i64 xa, .int .i64 xb, .slice lva ls.length lvc] 29)).heap.size := by simp
      rcases (show o = 2 ∨ o = 3 ∨ o = 4 ∨ o = 5 ∨ o = 11 ∨ (o ≠ 2 ∧ o ≠ 3 ∧ o ≠ 4 ∧ o ≠ 5 ∧ o ≠ 11) by omega) with ho | ho | ho | ho | ho | ⟨g2, g3, g4, g5, g11⟩
      · have q2 : (o == 2) = true := by rw [ho]; rfl
        have q3 : (o == 3) = false := by rw [ho]; rfl
        have q4 : (o == 4) = false := by rw [ho]; rfl
        have q5 : (o == 5) = false := by rw [ho]; rfl
        have q11 : (o == 11) = false := by rw [ho]; rfl
        have HN := Lib.hid (HST.out.trans ((congrArg (structB st) HD.out).trans (structB_go (show stepS st o = some (st ++ [o]) by unfold stepS; rw [if_pos (by omega)]) (fun h => absurd h.1 (by omega)))))
        clear ho
        have HNW := Lib.hid (show ∀ (j : Nat) (u : Value), [Value.int .i64 o][j]? = some u → ((wr.alloc (.cells #[.int .i64 o, .int .i64 xa, .int .i64 xb, .slice lva ls.length lvc] 29)).alloc (.cells #[.int .i64 o] 3)).cell? ((⟨wr.heap.size + 1, 0, none⟩ : Addr).add j) = some u from by
          have h9 := news_at (wr.alloc (.cells #[.int .i64 o, .int .i64 xa, .int .i64 xb, .slice lva ls.length lvc] 29)) #[.int .i64 o] 3 [.int .i64 o] rfl
          rw [show (wr.alloc (.cells #[.int .i64 o, .int .i64 xa, .int .i64 xb, .slice lva ls.length lvc] 29)).heap.size = wr.heap.size + 1 by simp] at h9
          exact h9)
        have HC3 := Lib.hid (show st.length + 1 ≤ maxLen by unfold maxLen; omega)
        have HC4 := Lib.hid (show (st.length + 1) * 8 ≤ 140737488355328 by omega)
        have HC5 := Lib.hid (show w.heap.size ≤ ((wr.alloc (.cells #[.int .i64 o, .int .i64 xa, .int .i64 xb, .slice lva ls.length lvc] 29)).alloc (.cells #[.int .i64 o] 3)).heap.size by have := HB.out.size; simp; omega)
        go_wp2_with (at_builtin; refine wpList_append_own _ rfl _ _ 27 rfl w.heap.size 3 i0 (.int .i64 0) 1 8 Tryz.underlying27 hi hz0 hz1 hz2 rfl (by decide) _ _ _ rfl ((HO.out.alloc (.cells #[.int .i64 o, .int .i64 xa, .int .i64 xb, .slice lva ls.length lvc] 29)).alloc _) ⟨wr.heap.size + 1, 0, none⟩ 1 1 [.int .i64 o] rfl rfl HNW.out (one_int [o]) HC3.out HC4.out HC5.out ?_)
        intro v' w1 hown1 hgrow _
        have HO1 := Lib.hid (show w1.ownsRow w.heap.size 3 1 v' (st ++ [o]).length (intsV (st ++ [o])) by rw [List.length_append]; unfold intsV; rw [List.map_append]; exact hown1)
        have HB1 := Lib.hid (((HB.out.alloc HB.out.size (.cells #[.int .i64 o, .int .i64 xa, .int .i64 xb, .slice lva ls.length lvc] 29)).alloc (by have := HB.out.size; simp; omega) _).grown hgrow (by have := HB.out.size; simp; omega) (fun k hk => (HO.out.lt k hk).1))
        clear hown1 hgrow
        go_wp2_with fail
        go_roundw
        case rel => exact ⟨k + 1, st ++ [o], by omega, by go_num, HN.out, by simp; omega, HO1.out, HB1.out⟩
        case measure => simp [intOf]; omega
      · have q2 : (o == 2) = false := by rw [ho]; rfl
        have q3 : (o == 3) = true := by rw [ho]; rfl
        have q4 : (o == 4) = false := by rw [ho]; rfl
        have q5 : (o == 5) = false := by rw [ho]; rfl
        have q11 : (o == 11) = false := by rw [ho]; rfl
        have HN := Lib.hid (HST.out.trans ((congrArg (structB st) HD.out).trans (structB_go (show stepS st o = some (st ++ [o]) by unfold stepS; rw [if_pos (by omega)]) (fun h => absurd h.1 (by omega)))))
        clear ho
        have HNW := Lib.hid (show ∀ (j : Nat) (u : Value), [Value.int .i64 o][j]? = some u → ((wr.alloc (.cells #[.int .i64 o, .int .i64 xa, .int .i64 xb, .slice lva ls.length lvc] 29)).alloc (.cells #[.int .i64 o] 3)).cell? ((⟨wr.heap.size + 1, 0, none⟩ : Addr).add j) = some u from by
          have h9 := news_at (wr.alloc (.cells #[.int .i64 o, .int .i64 xa, .int .i64 xb, .slice lva ls.length lvc] 29)) #[.int .i64 o] 3 [.int .i64 o] rfl
          rw [show (wr.alloc (.cells #[.int .i64 o, .int .i64 xa, .int .i64 xb, .slice lva ls.length lvc] 29)).heap.size = wr.heap.size + 1 by simp] at h9
          exact h9)
        have HC3 := Lib.hid (show st.length + 1 ≤ maxLen by unfold maxLen; omega)
        have HC4 := Lib.hid (show (st.length + 1) * 8 ≤ 140737488355328 by omega)
        have HC5 := Lib.hid (show w.heap.size ≤ ((wr.alloc (.cells #[.int .i64 o, .int .i64 xa, .int .i64 xb, .slice lva ls.length lvc] 29)).alloc (.cells #[.int .i64 o] 3)).heap.size by have := HB.out.size; simp; omega)
        go_wp2_with (at_builtin; refine wpList_append_own _ rfl _ _ 27 rfl w.heap.size 3 i0 (.int .i64 0) 1 8 Tryz.underlying27 hi hz0 hz1 hz2 rfl (by decide) _ _ _ rfl ((HO.out.alloc (.cells #[.int .i64 o, .int .i64 xa, .int .i64 xb, .slice lva ls.length lvc] 29)).alloc _) ⟨wr.heap.size + 1, 0, none⟩ 1 1 [.int .i64 o] rfl rfl HNW.out (one_int [o]) HC3.out HC4.out HC5.out ?_)
        intro v' w1 hown1 hgrow _
        have HO1 := Lib.hid (show w1.ownsRow w.heap.size 3 1 v' (st ++ [o]).length (intsV (st ++ [o])) by rw [List.length_append]; unfold intsV; rw [List.map_append]; exact hown1)
        have HB1 := Lib.hid (((HB.out.alloc HB.out.size (.cells #[.int .i64 o, .int .i64 xa, .int .i64 xb, .slice lva ls.length lvc] 29)).alloc (by have := HB.out.size; simp; omega) _).grown hgrow (by have := HB.out.size; simp; omega) (fun k hk => (HO.out.lt k hk).1))
        clear hown1 hgrow
        go_wp2_with fail
        go_roundw
        case rel => exact ⟨k + 1, st ++ [o], by omega, by go_num, HN.out, by simp; omega, HO1.out, HB1.out⟩
        case measure => simp [intOf]; omega
      · have q2 : (o == 2) = false := by rw [ho]; rfl
        have q3 : (o == 3) = false := by rw [ho]; rfl
        have q4 : (o == 4) = true := by rw [ho]; rfl
        have q5 : (o == 5) = false := by rw [ho]; rfl
        have q11 : (o == 11) = false := by rw [ho]; rfl
        have HN := Lib.hid (HST.out.trans ((congrArg (structB st) HD.out).trans (structB_go (show stepS st o = some (st ++ [o]) by unfold stepS; rw [if_pos (by omega)]) (fun h => absurd h.1 (by omega)))))
        clear ho
        have HNW := Lib.hid (show ∀ (j : Nat) (u : Value), [Value.int .i64 o][j]? = some u → ((wr.alloc (.cells #[.int .i64 o, .int .i64 xa, .int .i64 xb, .slice lva ls.length lvc] 29)).alloc (.cells #[.int .i64 o] 3)).cell? ((⟨wr.heap.size + 1, 0, none⟩ : Addr).add j) = some u from by
          have h9 := news_at (wr.alloc (.cells #[.int .i64 o, .int .i64 xa, .int .i64 xb, .slice lva ls.length lvc] 29)) #[.int .i64 o] 3 [.int .i64 o] rfl
          rw [show (wr.alloc (.cells #[.int .i64 o, .int .i64 xa, .int .i64 xb, .slice lva ls.length lvc] 29)).heap.size = wr.heap.size + 1 by simp] at h9
          exact h9)
        have HC3 := Lib.hid (show st.length + 1 ≤ maxLen by unfold maxLen; omega)
        have HC4 := Lib.hid (show (st.length + 1) * 8 ≤ 140737488355328 by omega)
        have HC5 := Lib.hid (show w.heap.size ≤ ((wr.alloc (.cells #[.int .i64 o, .int .i64 xa, .int .i64 xb, .slice lva ls.length lvc] 29)).alloc (.cells #[.int .i64 o] 3)).heap.size by have := HB.out.size; simp; omega)
        go_wp2_with (at_builtin; refine wpList_append_own _ rfl _ _ 27 rfl w.heap.size 3 i0 (.int .i64 0) 1 8 Tryz.underlying27 hi hz0 hz1 hz2 rfl (by decide) _ _ _ rfl ((HO.out.alloc (.cells #[.int .i64 o, .int .i64 xa, .int .i64 xb, .slice lva ls.length lvc] 29)).alloc _) ⟨wr.heap.size + 1, 0, none⟩ 1 1 [.int .i64 o] rfl rfl HNW.out (one_int [o]) HC3.out HC4.out HC5.out ?_)
        intro v' w1 hown1 hgrow _
        have HO1 := Lib.hid (show w1.ownsRow w.heap.size 3 1 v' (st ++ [o]).length (intsV (st ++ [o])) by rw [List.length_append]; unfold intsV; rw [List.map_append]; exact hown1)
        have HB1 := Lib.hid (((HB.out.alloc HB.out.size (.cells #[.int .i64 o, .int .i64 xa, .int .i64 xb, .slice lva ls.length lvc] 29)).alloc (by have := HB.out.size; simp; omega) _).grown hgrow (by have := HB.out.size; simp; omega) (fun k hk => (HO.out.lt k hk).1))
        clear hown1 hgrow
        go_wp2_with fail
        go_roundw
        case rel => exact ⟨k + 1, st ++ [o], by omega, by go_num, HN.out, by simp; omega, HO1.out, HB1.out⟩
        case measure => simp [intOf]; omega
      · have q2 : (o == 2) = false := by rw [ho]; rfl
        have q3 : (o == 3) = false := by rw [ho]; rfl
        have q4 : (o == 4) = false := by rw [ho]; rfl
        have q5 : (o == 5) = true := by rw [ho]; rfl
        have q11 : (o == 11) = false := by rw [ho]; rfl
        rcases List.eq_nil_or_concat st with he | ⟨s0, x, he⟩
        · subst he
          have HF := Lib.hid (HST.out.trans ((congrArg (structB []) HD.out).trans (structB_bad (show stepS [] o = none by unfold stepS; rw [if_neg (by omega), if_pos ho, if_neg (by simp)]) (fun h => absurd h.1 (by omega)))))
          have HB1 := Lib.hid (HB.out.alloc HB.out.size (.cells #[.int .i64 o, .int .i64 xa, .int .i64 xb, .slice lva ls.length lvc] 29))
          clear ho
          go_wp2_with fail
          go_ret
          exact ⟨by rw [← HANS.out, HF.out]; rfl, HB1.out⟩
        rw [List.concat_eq_append] at he
        subst he
        have hlen : (s0 ++ [x]).length = s0.length + 1 := by simp
        obtain ⟨gg, cc, hform⟩ := Go.Joins.ownsRow_form HO.out (by omega)
        simp only [Value.slice.injEq] at hform
        obtain ⟨rfl, _, rfl⟩ := hform
        have hgl := (HO.out.lt gg rfl)
        have d0 : wr.cell? ⟨gg, s0.length, none⟩ = some (.int .i64 x) := ints_at2 HO.out (by simp)
        have f0 : wr.frozen? ⟨gg, s0.length, none⟩ = false := HO.out.frozenAt _
        have hgl2 := hgl.2
        have hlx : s0.length < 9000000000000000 := by omega
        by_cases hx4 : x = 4
        · subst hx4
          have HN := Lib.hid (HST.out.trans ((congrArg (structB (s0 ++ [4])) HD.out).trans (structB_go (show stepS (s0 ++ [4]) o = some (s0 ++ [5]) by unfold stepS; rw [if_neg (by omega), if_pos ho, if_pos (by simp)]; simp) (fun h => absurd h.1 (by omega)))))
          have hst2 := HO.out.stored s0.length (.int .i64 5)
          have HO1 := Lib.hid (show ((wr.setCell ⟨gg, s0.length, none⟩ (.int .i64 5)).alloc (.cells #[.int .i64 o, .int .i64 xa, .int .i64 xb, .slice lva ls.length lvc] 29)).ownsRow w.heap.size 3 1 (.slice (some ⟨gg, 0, none⟩) (s0.length + 1) vc) (s0 ++ [5]).length (intsV (s0 ++ [5])) by
            have h := hst2.1
            rw [show (intsV (s0 ++ [4])).set s0.length (.int .i64 5) = intsV (s0 ++ [5]) by unfold intsV; rw [List.map_append, List.map_append, List.set_append_right _ _ (by simp)]; simp] at h
            rw [hlen] at h
            rw [show (s0 ++ [(5 : Int)]).length = s0.length + 1 by simp]
            exact h.alloc _)
          have hB5 := HB.out.setCell (p := ⟨gg, s0.length, none⟩) hgl.1 (.int .i64 5)
          have HB1 := Lib.hid (hB5.alloc hB5.size (.cells #[.int .i64 o, .int .i64 xa, .int .i64 xb, .slice lva ls.length lvc] 29))
          rw [hlen]
          clear ho hst2 hgl hB5
          go_wp2_with fail
          go_roundw
          case rel => exact ⟨k + 1, s0 ++ [5], by omega, by go_num, HN.out, by simp; omega, HO1.out, HB1.out⟩
          case measure => simp [intOf]; omega
        · have hx5 : (x != 4) = true := bne_iff_ne.2 hx4
          have HF := Lib.hid (HST.out.trans ((congrArg (structB (s0 ++ [x])) HD.out).trans (structB_bad (show stepS (s0 ++ [x]) o = none by unfold stepS; rw [if_neg (by omega), if_pos ho, if_neg (by simpa using hx4)]) (fun h => absurd h.1 (by omega)))))
          have HB1 := Lib.hid (HB.out.alloc HB.out.size (.cells #[.int .i64 o, .int .i64 xa, .int .i64 xb, .slice lva ls.length lvc] 29))
          rw [hlen]
          clear ho hgl
          go_wp2_with fail
          go_ret
          exact ⟨by rw [← HANS.out, HF.out]; rfl, HB1.out⟩
      · have q2 : (o == 2) = false := by rw [ho]; rfl
        have q3 : (o == 3) = false := by rw [ho]; rfl
        have q4 : (o == 4) = false := by rw [ho]; rfl
        have q5 : (o == 5) = false := by rw [ho]; rfl
        have q11 : (o == 11) = true := by rw [ho]; rfl
        rcases List.eq_nil_or_concat st with he | ⟨s0, x, he⟩
        · subst he
          have HF := Lib.hid (show ANS = decide (k + 1 = l.length) by
            rw [← HANS.out, HST.out, HD.out, ho, structB_end]
            rw [Bool.eq_iff_iff, List.isEmpty_iff, List.drop_eq_nil_iff, decide_eq_true_iff]
            simp only [opsOf, List.length_map]
            omega)
          have HB1 := Lib.hid (HB.out.alloc HB.out.size (.cells #[.int .i64 o, .int .i64 xa, .int .i64 xb, .slice lva ls.length lvc] 29))
          have hlx : l.length < 9000000000000000 := by omega
          clear ho
          by_cases hkl : k + 1 = l.length
          · have hq : ((k : Int) == (l.length : Int) - 1) = true := by rw [beq_iff_eq]; omega
            go_wp2_with fail
            go_ret
            exact ⟨by rw [HF.out, decide_eq_true hkl]; rfl, HB1.out⟩
          · have hq : ((k : Int) == (l.length : Int) - 1) = false := by rw [beq_eq_false_iff_ne]; omega
            go_wp2_with fail
            go_ret
            exact ⟨by rw [HF.out, decide_eq_false hkl]; rfl, HB1.out⟩
        rw [List.concat_eq_append] at he
        subst he
        have HN := Lib.hid (HST.out.trans ((congrArg (structB (s0 ++ [x])) HD.out).trans (structB_go (show stepS (s0 ++ [x]) o = some s0 by unfold stepS; rw [if_neg (by omega), if_neg (by omega), if_pos ho, if_neg (by simp)]; simp) (by simp))))
        have hlen : (s0 ++ [x]).length = s0.length + 1 := by simp
        obtain ⟨gg, cc, hform⟩ := Go.Joins.ownsRow_form HO.out (by omega)
        simp only [Value.slice.injEq] at hform
        obtain ⟨rfl, _, rfl⟩ := hform
        have hcap : s0.length + 1 ≤ vc := by
          rcases HO.out.2 with ⟨h', _⟩ | ⟨g', cap', cur, h', _, _, hc, _⟩
          · simp at h'
          · simp only [Value.slice.injEq] at h'
            omega
        have HO1 := Lib.hid (show (wr.alloc (.cells #[.int .i64 o, .int .i64 xa, .int .i64 xb, .slice lva ls.length lvc] 29)).ownsRow w.heap.size 3 1 (.slice (some ⟨gg, 0, none⟩) s0.length vc) s0.length (intsV s0) by
          have h := ownsRow_take (HO.out.alloc (.cells #[.int .i64 o, .int .i64 xa, .int .i64 xb, .slice lva ls.length lvc] 29)) (m := s0.length) (by omega)
          rw [Nat.mul_one] at h
          unfold intsV at h
          rw [List.map_append, List.take_left' (by simp)] at h
          exact h)
        have HB1 := Lib.hid (HB.out.alloc HB.out.size (.cells #[.int .i64 o, .int .i64 xa, .int .i64 xb, .slice lva ls.length lvc] 29))
        have hlx : s0.length < 9000000000000000 := by omega
        rw [hlen]
        clear ho
        go_wp2_with fail
        go_roundw
        case rel => exact ⟨k + 1, s0, by omega, by go_num, HN.out, by omega, HO1.out, HB1.out⟩
        case measure => simp [intOf]; omega
      · have q2 : (o == 2) = false := beq_eq_false_iff_ne.2 g2
        have q3 : (o == 3) = false := beq_eq_false_iff_ne.2 g3
        have q4 : (o == 4) = false := beq_eq_false_iff_ne.2 g4
        have q5 : (o == 5) = false := beq_eq_false_iff_ne.2 g5
        have q11 : (o == 11) = false := beq_eq_false_iff_ne.2 g11
        have HN := Lib.hid (HST.out.trans ((congrArg (structB st) HD.out).trans (structB_go (show stepS st o = some st by unfold stepS; rw [if_neg (by omega), if_neg g5, if_neg g11]) (fun h => absurd h.1 g11))))
        have HO1 := Lib.hid (HO.out.alloc (.cells #[.int .i64 o, .int .i64 xa, .int .i64 xb, .slice lva ls.length lvc] 29))
        have HB1 := Lib.hid (HB.out.alloc HB.out.size (.cells #[.int .i64 o, .int .i64 xa, .int .i64 xb, .slice lva ls.length lvc] 29))
        have hlx : st.length < 9000000000000000 := by omega
        clear g2 g3 g4 g5 g11
        go_wp2_with fail
        go_roundw
        case rel => exact ⟨k + 1, st, by omega, by go_num, HN.out, by omega, HO1.out, HB1.out⟩
        case measure => simp [intOf]; omega
    · obtain rfl : k = l.length := by omega
      have hd : decide ((l.length : Int) < (l.length : Int)) = false := by simp
      have hd2 : decide (l.length < l.length) = false := by simp
      have HF := Lib.hid (show ANS = false by
        rw [← HANS.out, HST.out, List.drop_of_length_le (by simp [opsOf])]
        cases st <;> rfl)
      clear hown hB
      go_wp2_with fail
      go_ret
      exact ⟨by rw [HF.out]; rfl, HB.out⟩
end Go.Proofs.YtmbgemcddjailaaGreatDoor.Mod
