/-
  The rounds of Copy's two loops, on memory alone.
-/
import Derived.Test.YthkdegmnnbepdaaGreatDoorModCopyW
namespace Go.Proofs.YthkdegmnnbepdaaGreatDoor.Mod
open Go.RowKit Go.Maps Go.Proofs.YthkdegmnnbepdaaGreatDoor.Op
set_option linter.unusedVariables false
theorem rowAt_ints {w : World} {v : Value} {zs : List Int} (h : IntsAt w v zs) (hl : zs.length ≤ 9223372036854775807) : RowAt w 1 v (zs.map fun z => [.int .i64 z]) := by
  rcases h with ⟨rfl, rfl⟩ | ⟨b, off, c, rfl, hb, hc⟩
  · exact ⟨none, 0, rfl, by simp, fun i r hr => by simp at hr⟩
  · refine ⟨some ⟨b, off, none⟩, c, by rw [List.length_map], by rw [List.length_map]; exact hl, fun i r hr => ?_⟩
    rw [List.getElem?_map] at hr
    cases hz : zs[i]? with
    | none => rw [hz] at hr; cases hr
    | some z =>
      rw [hz] at hr
      simp only [Option.map_some, Option.some.injEq] at hr
      subst hr
      refine ⟨rfl, b, off, rfl, hb, fun j u hu => ?_⟩
      cases j with
      | zero =>
        simp at hu
        subst hu
        rw [Nat.mul_one, Nat.add_zero]
        exact hc i z hz
      | succ j => simp at hu
/-- the inner loop: code's labels, c of them anew -/
def InAt (w1 : World) (B : Nat) (cv : Value) (irows : List (List Value)) (code : List InsL) (c : Nat) (wi : World) : Prop :=
  ∃ rows, rows.length = irows.length ∧ OwnAt wi B 40 4 cv rows ∧ (∀ i, c ≤ i → rows[i]? = irows[i]?) ∧ (∀ i r x, i < c → rows[i]? = some r → code[i]? = some x → InsOwn wi B r x) ∧ Keeps (fun j => cv.ownBlock = some j) w1 wi
theorem in_start {w1 : World} {B : Nat} {cv : Value} {irows : List (List Value)} (code : List InsL) (h : OwnAt w1 B 40 4 cv irows) : InAt w1 B cv irows code 0 w1 :=
  ⟨irows, rfl, h, fun _ _ => rfl, fun i r x hi => absurd hi (by omega), .refl _ _⟩
theorem in_end {w1 wi : World} {B : Nat} {cv : Value} {irows : List (List Value)} {code : List InsL} (h : InAt w1 B cv irows code code.length wi) (hl : irows.length = code.length) : CodeOwn wi B cv code := by
  obtain ⟨rows, h1, h2, _, h4, _⟩ := h
  exact ⟨rows, h2, by omega, fun i r x hr hx => h4 i r x (List.getElem?_eq_some_iff.1 hx).1 hr hx⟩
theorem in_step {w1 wi w2 : World} {B : Nat} {g n cap : Nat} {irows : List (List Value)} {code : List InsL} {c : Nat} {x : InsL} {lv lv' : Value}
    (h : InAt w1 B (.slice (some ⟨g, 0, none⟩) n cap) irows code c wi) (hn : n = irows.length) (hr : irows[c]? = some [.int .i64 x.op, .int .i64 x.a, .int .i64 x.b, lv]) (hx : code[c]? = some x) (hw : (Lit.int .i64 x.op).wf = true)
    (hB : B ≤ wi.heap.size) (hb : Below wi.heap.size wi w2) (ho : LabOwn w2 wi.heap.size lv' x.labels) : InAt w1 B (.slice (some ⟨g, 0, none⟩) n cap) irows code (c + 1) (w2.setCell ⟨g, c * 4 + 3, none⟩ lv') := by
  obtain ⟨rows, h1, h2, h3, h4, h5⟩ := h
  have hrc : rows[c]? = some [.int .i64 x.op, .int .i64 x.a, .int .i64 x.b, lv] := (h3 c (Nat.le_refl _)).trans hr
  have hc := (List.getElem?_eq_some_iff.1 hrc).1
  have h2' : OwnAt w2 B 40 4 (.slice (some ⟨g, 0, none⟩) n cap) rows := h2.later hb
  obtain ⟨cs, fz, hk⟩ := Lib.ownsRow_kind h2'.1 g rfl
  have k2 : Keeps (fun j => j = g) w2 (w2.setCell ⟨g, c * 4 + 3, none⟩ lv') := Keeps.setCell (F := fun j => j = g) w2 _ _ rfl
  have hlab : LabOwn w2 B lv' x.labels := ⟨ownsRow_base ho.1 hB, ho.2⟩
  have hK : ∀ j, (fun j => j = g) j → w2.heap.size ≤ j ∨ ∃ cs t f, w2.heap[j]? = some (.cells cs t f) ∧ 3 ≠ t := fun j hj => .inr ⟨cs, 40, fz, by obtain rfl : j = g := hj; exact hk, by decide⟩
  have hput := h2'.put (by omega) hrc (p := 3) (by omega) lv'
  refine ⟨rows.set c _, by rw [List.length_set]; exact h1, hput, fun i hi => ?_, fun i r y hi hri hy => ?_, ?_⟩
  · rw [List.getElem?_set_ne (by omega)]
    exact h3 i (by omega)
  · by_cases hic : i = c
    · subst hic
      rw [hx] at hy
      obtain rfl := Option.some.inj hy
      rw [List.getElem?_set_self hc] at hri
      obtain rfl := Option.some.inj hri
      exact ⟨lv', rfl, OwnAt.keeps hlab k2 hK, hw⟩
    · rw [List.getElem?_set_ne (by omega)] at hri
      refine InsOwn.keeps ?_ k2 hK
      exact (h4 i r y (by omega) hri hy).keeps (Keeps.of_below (F := fun _ => False) hb) (fun j hj => hj.elim)
  · refine Keeps.trans (Keeps.trans h5 (Keeps.of_below (F := fun _ => False) hb) (fun j hj => hj.elim)) k2 (fun j hj => .inl ?_)
    rw [show j = g from hj]
    rfl
/-- the outer loop: functions' code, k of them anew -/
def OutAt (wc : World) (B : Nat) (vf : Value) (rf : List (List Value)) (fs : List FuncP) (k : Nat) (wr : World) : Prop :=
  ∃ rows, rows.length = rf.length ∧ OwnAt wr B 33 3 vf rows ∧ (∀ i, k ≤ i → rows[i]? = rf[i]?) ∧ (∀ i r x, i < k → rows[i]? = some r → fs[i]? = some x → FuncOwn wr B r x) ∧ Keeps (fun j => vf.ownBlock = some j) wc wr
theorem out_start {wc : World} {B : Nat} {vf : Value} {rf : List (List Value)} (fs : List FuncP) (h : OwnAt wc B 33 3 vf rf) : OutAt wc B vf rf fs 0 wc :=
  ⟨rf, rfl, h, fun _ _ => rfl, fun i r x hi => absurd hi (by omega), .refl _ _⟩
theorem out_step {wc wr w1 wi : World} {B : Nat} {g n cap : Nat} {rf : List (List Value)} {fs : List FuncP} {k : Nat} {x : FuncP} {cv cv' : Value} {irows : List (List Value)}
    (h : OutAt wc B (.slice (some ⟨g, 0, none⟩) n cap) rf fs k wr) (hn : n = rf.length) (hr : rf[k]? = some [.int .i64 x.ty, .string x.locals, cv]) (hx : fs[k]? = some x)
    (hB : B ≤ wr.heap.size) (hb : Below wr.heap.size wr w1) (ho : OwnAt w1 wr.heap.size 40 4 cv' irows) (hl : irows.length = x.code.length)
    (hi : InAt (w1.setCell ⟨g, k * 3 + 2, none⟩ cv') B cv' irows x.code x.code.length wi) : OutAt wc B (.slice (some ⟨g, 0, none⟩) n cap) rf fs (k + 1) wi := by
  obtain ⟨rows, h1, h2, h3, h4, h5⟩ := h
  have hrk : rows[k]? = some [.int .i64 x.ty, .string x.locals, cv] := (h3 k (Nat.le_refl _)).trans hr
  have hk := (List.getElem?_eq_some_iff.1 hrk).1
  have h2' : OwnAt w1 B 33 3 (.slice (some ⟨g, 0, none⟩) n cap) rows := h2.later hb
  obtain ⟨cs, fz, hkd⟩ := Lib.ownsRow_kind h2'.1 g rfl
  have k2 : Keeps (fun j => j = g) w1 (w1.setCell ⟨g, k * 3 + 2, none⟩ cv') := Keeps.setCell (F := fun j => j = g) w1 _ _ rfl
  have hK : ∀ j, (fun j => j = g) j → w1.heap.size ≤ j ∨ ∃ cs t f, w1.heap[j]? = some (.cells cs t f) ∧ 3 ≠ t ∧ 40 ≠ t := fun j hj => .inr ⟨cs, 33, fz, by obtain rfl : j = g := hj; exact hkd, by decide, by decide⟩
  have hput := h2'.put (by omega) hrk (p := 2) (by omega) cv'
  have hcode := in_end hi hl
  obtain ⟨_, _, _, _, _, k3⟩ := hi
  have hz : (w1.setCell ⟨g, k * 3 + 2, none⟩ cv').heap.size = w1.heap.size := by simp [World.setCell]
  -- the code's block is new: below it nothing turns
  have hnew : ∀ j, cv'.ownBlock = some j → wr.heap.size ≤ j := fun j hj => (ho.1.lt j hj).1
  have kall : Keeps (fun j => j = g ∨ wr.heap.size ≤ j) wr wi :=
    Keeps.trans (Keeps.trans (Keeps.of_below (F := fun j => j = g ∨ wr.heap.size ≤ j) hb) k2 (fun j hj => .inl (.inl hj))) k3 (fun j hj => .inl (.inr (hnew j hj)))
  obtain ⟨cs0, fz0, hkd0⟩ := Lib.ownsRow_kind h2.1 g rfl
  have hK0 : ∀ j, (fun j => j = g ∨ wr.heap.size ≤ j) j → wr.heap.size ≤ j ∨ ∃ cs t f, wr.heap[j]? = some (.cells cs t f) ∧ 3 ≠ t ∧ 40 ≠ t := fun j hj => by
    rcases hj with hj | hj
    · exact .inr ⟨cs0, 33, fz0, by obtain rfl : j = g := hj; exact hkd0, by decide, by decide⟩
    · exact .inl hj
  refine ⟨rows.set k _, by rw [List.length_set]; exact h1, OwnAt.keeps hput k3 (fun j hj => ?_), fun i hi => ?_, fun i r y hi hri hy => ?_, ?_⟩
  · obtain ⟨cs1, fz1, hk1⟩ := Lib.ownsRow_kind ho.1 j hj
    refine .inr ⟨cs1, 40, fz1, ?_, by decide⟩
    rw [k2.block j (ho.1.lt j hj).2 (fun e => ?_)]
    · exact hk1
    · have e' : j = g := e
      rw [e', hkd] at hk1
      simp at hk1
  · rw [List.getElem?_set_ne (by omega)]
    exact h3 i (by omega)
  · by_cases hik : i = k
    · subst hik
      rw [hx] at hy
      obtain rfl := Option.some.inj hy
      rw [List.getElem?_set_self hk] at hri
      obtain rfl := Option.some.inj hri
      exact ⟨cv', rfl, hcode⟩
    · rw [List.getElem?_set_ne (by omega)] at hri
      exact (h4 i r y (by omega) hri hy).keeps kall hK0
  · refine Keeps.trans h5 kall (fun j hj => ?_)
    rcases hj with hj | hj
    · refine .inl ?_
      rw [show j = g from hj]
      rfl
    · exact .inr (Nat.le_trans h5.size hj)
end Go.Proofs.YthkdegmnnbepdaaGreatDoor.Mod
