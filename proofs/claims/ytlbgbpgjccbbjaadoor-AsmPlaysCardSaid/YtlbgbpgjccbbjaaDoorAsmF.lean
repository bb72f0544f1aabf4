/-
  What package asm's Go does. No condition beyond what each theorem names.
-/
import Derived.Test.YtlbgbpgjccbbjaaDoorAsmE
import Derived.IntWalk
namespace Go.Proofs.YtlbgbpgjccbbjaaDoor.Asm
open Go.RowKit Go.Maps Go.Proofs.YtlbgbpgjccbbjaaDoor.Op
set_option linter.unusedVariables false
def brS : ByteArray := ⟨#[98, 114]⟩
def brifS : ByteArray := ⟨#[98, 114, 95, 105, 102]⟩
def goCode (nm : List UInt8) : Option Int := if nm = [98, 114] then some 12 else if nm = [98, 114, 95, 105, 102] then some 13 else none
/-- the two names that go to a label -/
def goD : DataW Value := ((DataW.map []).put (.string [98, 114]) (.held (.int .i64 12))).put (.string [98, 114, 95, 105, 102]) (.held (.int .i64 13))
theorem goD_eq : goD = .map [(.string [98, 114], .held (.int .i64 12)), (.string [98, 114, 95, 105, 102], .held (.int .i64 13))] := by rfl
theorem str_same (a b : List UInt8) : (Lit.string a).sameKey (.string b) = decide (a = b) := by
  simp [Lit.sameKey]
  rw [Bool.eq_iff_iff]
  simp
theorem goD_has (nm : List UInt8) : has goD (.string nm) = (goCode nm).isSome := by
  rw [goD_eq, Maps.has_eq]
  simp only [List.any_cons, List.any_nil, str_same, Bool.or_false]
  unfold goCode
  by_cases h1 : nm = [98, 114]
  · subst h1; rfl
  · by_cases h2 : nm = [98, 114, 95, 105, 102]
    · subst h2; rfl
    · rw [if_neg h1, if_neg h2, decide_eq_false (Ne.symm h1), decide_eq_false (Ne.symm h2)]; rfl
theorem goD_at (nm : List UInt8) : goD.atKey (.string nm) (.held (.int .i64 0)) = .held (.int .i64 ((goCode nm).getD 0)) := by
  rw [goD_eq]
  simp only [DataW.atKey, List.find?_cons, List.find?_nil, str_same]
  unfold goCode
  by_cases h1 : nm = [98, 114]
  · subst h1; rfl
  · by_cases h2 : nm = [98, 114, 95, 105, 102]
    · subst h2; rfl
    · rw [if_neg h1, if_neg h2, decide_eq_false (Ne.symm h1), decide_eq_false (Ne.symm h2)]; rfl
/-- how the map of the two names is laid, and asked -/
theorem go_map (nm : ByteArray) (hs : nm.size ≤ maxLen) (w : World) (v : Int) (ok : Bool) (hv : (goCode nm.data.toList).getD 0 = v) (hok : (goCode nm.data.toList).isSome = ok) : ∃ wa wb, (Instr.mapUpdate 85 (.map (some w.heap.size)) (.string ⟨#[98, 114]⟩) (.int .i64 12)).run Tryd.prog (w.alloc (.map #[] 0)) = .ok () wa ∧ (Instr.mapUpdate 85 (.map (some w.heap.size)) (.string ⟨#[98, 114, 95, 105, 102]⟩) (.int .i64 13)).run Tryd.prog wa = .ok () wb ∧
    (Instr.lookup 85 (.map (some w.heap.size)) (.string nm) true).run Tryd.prog wb = .ok (.tuple #[.int .i64 v, .bool ok]) wb ∧ Below w.heap.size w wb := by
  have h0 := World.ownsMap_made w Tryd.prog 9 asIs
  obtain ⟨wa, ra, oa, ga⟩ := h0.update (val := .int .i64 12) keyed_str Tryd.underlying85 (by unfold maxLen; omega) (key_str (nm := ⟨#[98, 114]⟩) (by unfold maxLen; decide)) rfl
  obtain ⟨wb, rb, ob, gb⟩ := oa.update (val := .int .i64 13) keyed_str Tryd.underlying85 (by unfold maxLen; omega) (key_str (nm := ⟨#[98, 114, 95, 105, 102]⟩) (by unfold maxLen; decide)) rfl
  obtain ⟨u, ps, hrun, hu⟩ := ob.look_ok keyed_str Tryd.underlying85 (zero_int wb) (show asIs (.int .i64 0) = some (.held (.int .i64 0), []) from rfl) (key_str hs)
  have hu1 : DataW.held u = goD.atKey (.string nm.data.toList) (.held (.int .i64 0)) := congrArg Prod.fst (Option.some.inj hu)
  rw [goD_at, hv] at hu1
  obtain rfl := held_inj hu1
  have hh : has goD (.string nm.data.toList) = ok := by rw [goD_has, hok]
  rw [show has (((DataW.map []).put (.string (⟨#[98, 114]⟩ : ByteArray).data.toList) (.held (.int .i64 12))).put (.string (⟨#[98, 114, 95, 105, 102]⟩ : ByteArray).data.toList) (.held (.int .i64 13))) (.string nm.data.toList) = ok from hh] at hrun
  have B0 : Below w.heap.size w (w.alloc (.map #[] 0)) := (Below.refl _ _).alloc (Nat.le_refl _) _
  have Ba := B0.grown ga B0.size (fun k hk => by cases hk; exact Nat.le_refl _)
  exact ⟨wa, wb, ra, rb, hrun, Ba.grown gb Ba.size (fun k hk => by cases hk; exact Nat.le_refl _)⟩
/-- how many blocks out the innermost one of that label is -/
def labN (lab : List UInt8) (l : List Mk) : Option Nat := l.reverse.findIdx? fun m => m.label.data.toList == lab
theorem labN_at {lab : List UInt8} {l : List Mk} {k : Nat} {m : Mk} (hk : k < l.length) (hm : l[l.length - 1 - k]? = some m) (hpre : ∀ j, j < k → ∀ m', l[l.length - 1 - j]? = some m' → m'.label.data.toList ≠ lab) (he : m.label.data.toList = lab) : labN lab l = some k := by
  unfold labN
  rw [List.findIdx?_eq_some_iff_getElem]
  refine ⟨by simpa using hk, ?_, fun j hj => ?_⟩
  · rw [List.getElem_reverse]
    rw [List.getElem?_eq_getElem (by omega)] at hm
    rw [Option.some.inj hm]
    simpa using he
  · rw [List.getElem_reverse]
    have := hpre j hj _ (List.getElem?_eq_getElem (by omega))
    simpa using this
theorem labN_not {lab : List UInt8} {l : List Mk} (hpre : ∀ j, j < l.length → ∀ m', l[l.length - 1 - j]? = some m' → m'.label.data.toList ≠ lab) : labN lab l = none := by
  unfold labN
  rw [List.findIdx?_eq_none_iff]
  intro m hm
  obtain ⟨j, hj, rfl⟩ := List.getElem_of_mem hm
  rw [List.getElem_reverse]
  have := hpre j (by simpa using hj) _ (List.getElem?_eq_getElem (by simp at hj; omega))
  simpa using this
set_option maxRecDepth 100000 in
set_option maxHeartbeats 1000000 in
theorem go_no (nm lab : ByteArray) (b : Value) (w : World) (hs : nm.size ≤ maxLen) (hc : goCode nm.data.toList = none) :
    Calls Tryd.prog 27 #[b, .string nm, .string lab] w fun e w' => e = .returned (.int .i64 1) ∧ Below w.heap.size w w' := by
  have hmm := @run_makeMap Tryd.prog
  obtain ⟨wa, wb, ra, rb, rc, hb⟩ := go_map nm hs w 0 false (by rw [hc]; rfl) (by rw [hc]; rfl)
  have HB := Lib.hid hb
  clear hc hb
  go_enter Tryd.func27, Tryd.ntmps27
  go_wp2_with fail
  go_ret
  exact ⟨rfl, HB.out⟩
def RelL (w : World) (B bb : Nat) (x : Bx) (n : Nat) (s : St) (lab : List UInt8) (i : Value) (wr : World) : Prop := ∃ k : Nat, k ≤ s.opens.length ∧ i = .int .i64 k ∧ (∀ j, j < k → ∀ m', s.opens[s.opens.length - 1 - j]? = some m' → m'.label.data.toList ≠ lab) ∧ BAt wr B bb x n s ∧ Below w.heap.size w wr
def goSt (s : St) (c : Int) : Option Nat → St | some k => { s with code := s.code ++ [⟨c, k, 0⟩] } | none => s
def goAns : Option Nat → Int | some _ => 0 | none => 13
set_option maxRecDepth 100000 in
set_option maxHeartbeats 2000000 in
theorem go_some (nm lab : ByteArray) (w : World) (B bb : Nat) (x : Bx) (n : Nat) (s : St) (h : BAt w B bb x n s) (hB : B ≤ w.heap.size) (hlc : s.code.length < 1000000) (hlo : s.opens.length < 1000000) (hs : nm.size ≤ maxLen) (c : Int) (hc : goCode nm.data.toList = some c) (o : Option Nat) (hlab : labN lab.data.toList s.opens = o) :
    Calls Tryd.prog 27 #[.pointer (some ⟨bb, 0, none⟩), .string nm, .string lab] w fun e w' => e = .returned (.int .i64 (goAns o)) ∧ Upd w B bb x n (goSt s c o) w' := by
  have hmm := @run_makeMap Tryd.prog
  obtain ⟨wa, wb, ra, rb, rc, hb⟩ := go_map nm hs w c true (by rw [hc]; rfl) (by rw [hc]; rfl)
  have HB := Lib.hid hb
  have HO := Lib.hid hlab
  obtain ⟨lv, cv, ov, mb⟩ := x
  obtain ⟨a, cap, hov⟩ := opens_form h
  subst hov
  have H0 := Lib.hid h
  have hA := h.later hb
  have HA := Lib.hid hA
  obtain ⟨_, _, _, c3, _⟩ := hA.cells
  clear hc hb h hA hlab
  go_enter Tryd.func27, Tryd.ntmps27
  go_wp2_with fail
  clear ra rb rc hmm c3
  go_loopw [24] (fun i wr => RelL w B bb ⟨lv, cv, .slice a s.opens.length cap, mb⟩ n s lab.data.toList i wr) (fun i _ => s.opens.length - (intOf i).toNat)
  case atStart => exact ⟨0, Nat.zero_le _, rfl, fun j hj => by omega, HA.out, HB.out⟩
  case round =>
    obtain ⟨k, hk, rfl, hpre, hA, hb⟩ := hrel
    have HP := Lib.hid hpre
    have HA1 := Lib.hid hA
    have HB1 := Lib.hid hb
    clear hpre
    by_cases hlt : k < s.opens.length
    · obtain ⟨g, cap', hov⟩ := Go.Joins.ownsRow_form hA.ope (by omega)
      have hov1 : Value.slice a s.opens.length cap = .slice (some ⟨g, 0, none⟩) s.opens.length cap' := hov
      simp only [Value.slice.injEq] at hov1
      obtain ⟨rfl, _, rfl⟩ := hov1
      obtain ⟨i, hi⟩ : ∃ i, s.opens.length = i + k + 1 := ⟨s.opens.length - 1 - k, by omega⟩
      obtain ⟨⟨mc, ml⟩, hm⟩ : ∃ m, s.opens[i]? = some m := ⟨_, List.getElem?_eq_getElem (by omega)⟩
      have d1 : wr.cell? ⟨g, i * 2 + 1, none⟩ = some (.string ml) := by
        rw [hA.ope.cellAt _ (by omega), openV_at _ i 1 ⟨mc, ml⟩ hm (by decide)]
        rfl
      obtain ⟨_, _, _, c3, _⟩ := hA.cells
      have e1 : IntKind.i64.wrap ((s.opens.length : Int) - 1) = (s.opens.length : Int) - 1 := IntWalk.i64_in _ (by omega)
      have e2 : IntKind.i64.wrap ((s.opens.length : Int) - 1 - k) = (i : Int) := by rw [show ((s.opens.length : Int) - 1 - k) = (i : Int) by omega]; exact IntWalk.i64_in _ (by omega)
      have hd : decide (k < s.opens.length) = true := decide_eq_true hlt
      have hil : (i : Int) < (s.opens.length : Int) := by omega
      have hi2 : s.opens.length - 1 - k = i := by omega
      have HI := Lib.hid hi
      have HM := Lib.hid hm
      have HI2 := Lib.hid hi2
      clear hA hb hov hi hm hi2
      by_cases he : ml.data.toList = lab.data.toList
      · have hq := eqT he
        have ho : o = some k := by rw [← HO.out]; exact labN_at hlt (by rw [HI2.out]; exact HM.out) HP.out he
        subst ho
        clear he
        go_wp2_with fail
        go_quiet (fail)
        go_wp2_with fail
        have hA2 := HA1.out.kept (w' := wr.drewN nq) (fun _ _ => rfl)
        have hB2 : Below w.heap.size w (wr.drewN nq) := HB1.out.trans ⟨rfl, rfl, rfl, Nat.le_refl _, fun _ _ => rfl⟩
        refine (put_any c k 0 _ B bb _ n s hA2 (Nat.le_trans hB hB2.size) hlc).mono ?_
        rintro e w5 ⟨rfl, hu5⟩
        have HU5 := Lib.hid (hu5.after hB2)
        clear hu5 hA2 hB2
        go_wp2_with fail
        go_ret
        exact ⟨rfl, HU5.out⟩
      · have hq := eqF he
        have HQ := Lib.hid he
        clear he
        go_wp2_with fail
        go_quiet (fail)
        go_wp2_with fail
        go_roundw
        case rel => exact ⟨k + 1, by omega, by go_num, fun j hj m' hm' => by rcases (show j < k ∨ j = k by omega) with h9 | rfl; exact HP.out j h9 m' hm'; rw [HI2.out, HM.out] at hm'; cases hm'; exact HQ.out, HA1.out.kept (fun _ _ => rfl), HB1.out.trans ⟨rfl, rfl, rfl, Nat.le_refl _, fun _ _ => rfl⟩⟩
        case measure => simp [intOf]; omega
    · obtain rfl : k = s.opens.length := by omega
      have hd : decide (s.opens.length < s.opens.length) = false := by simp
      have ho : o = none := by rw [← HO.out]; exact labN_not HP.out
      subst ho
      clear hA hb
      go_wp2_with fail
      go_ret
      exact ⟨rfl, Upd.below H0.out HB1.out⟩
end Go.Proofs.YtlbgbpgjccbbjaaDoor.Asm
