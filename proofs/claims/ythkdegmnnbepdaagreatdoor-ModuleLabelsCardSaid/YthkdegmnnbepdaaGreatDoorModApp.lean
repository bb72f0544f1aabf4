/-
  append onto an own row of things of more than one cell, from whatever source, as laws over rows. Plain but for the model's append.
-/
import Derived.Test.YthkdegmnnbepdaaGreatDoorModCopyW
import Derived.Maps.AppendAt
namespace Go.Proofs.YthkdegmnnbepdaaGreatDoor.Mod
open Go.RowKit Go.Maps Go.Proofs.YthkdegmnnbepdaaGreatDoor.Op
set_option linter.unusedVariables false
/-- a slice's type: of what, how many cells, how many bytes -/
structure TyOk (t e : TypeId) (size bytes : Nat) : Prop where
  slice : Tryz.prog.underlying t = some (.slice e)
  info : ∃ i z, Tryz.prog.info? e = some i ∧ i.zero = some z ∧ i.size = size ∧ i.bytes = bytes ∧ z.cells.size = size
  pos : 0 < size
theorem own_nil (w : World) (B : Nat) (e : TypeId) (size : Nat) : OwnAt w B e size (.slice none 0 0) [] := ⟨World.ownsRow_nil _ _ _ _, fun r hr => by cases hr⟩
theorem row_nil (w : World) (size c : Nat) : RowAt w size (.slice none 0 c) [] := ⟨none, c, rfl, Nat.zero_le _, fun i r hr => by simp at hr⟩
theorem row_new (W : World) (e : TypeId) (r : List Value) : RowAt (W.alloc (.cells r.toArray e)) r.length (.slice (some ⟨W.heap.size, 0, none⟩) 1 1) [r] := by
  refine ⟨_, 1, rfl, (show 1 ≤ 9223372036854775807 by decide), fun i s hs => ?_⟩
  have hi := (List.getElem?_eq_some_iff.1 hs).1
  obtain rfl : i = 0 := by simp at hi; exact hi
  obtain rfl : r = s := by simpa using hs
  refine ⟨rfl, W.heap.size, 0, rfl, by simp, fun j u hu => ?_⟩
  rw [Nat.zero_mul, Nat.zero_add, World.cell?_alloc_at _ _ _ _ rfl, ← Array.getElem?_toList]
  exact hu
theorem row_ad {w : World} {size n c : Nat} {rows : List (List Value)} (h : RowAt w size (.slice none n c) rows) : n = 0 ∧ rows = [] := by
  obtain ⟨la, c', hv, _, hr⟩ := h
  simp only [Value.slice.injEq] at hv
  obtain ⟨h1, h2, _⟩ := hv
  subst h1
  cases rows with
  | nil => exact ⟨h2, rfl⟩
  | cons r rs =>
    obtain ⟨_, _, _, he, _⟩ := hr 0 r rfl
    cases he
theorem run_append_of_nil2 {w : World} {t ty e : TypeId} {size bytes : Nat} (T : TyOk t e size bytes) {B : Nat} {v : Value} {n : Nat} {xs : List Value} (hown : w.ownsRow B e size v n xs) (c : Nat) : (Builtin.append_ #[t, t] ty #[v, .slice none 0 c]).run Tryz.prog w = .ok v w := by
  obtain ⟨i, z, hi, _⟩ := T.info
  rcases hown.2 with ⟨rfl, rfl⟩ | ⟨g, cap, cur, rfl, _, _, hnc, _⟩
  · simp [Builtin.append_, run_underlying T.slice, sizeOf, typeInfo, hi, Builtin.lenOf, Builtin.firstCells]
  · simp [Builtin.append_, run_underlying T.slice, sizeOf, typeInfo, hi, Builtin.lenOf, Builtin.firstCells, hnc, storeCells]
/-- append of an addressed source: where the answer lies -/
theorem run_append_ad {w : World} {t ty e : TypeId} {size bytes : Nat} (T : TyOk t e size bytes) {B : Nat} {v : Value} {n : Nat} {xs : List Value} (hown : w.ownsRow B e size v n xs)
    (a : Addr) (m c : Nat) (news : List Value) (hl : news.length = m * size) (hnews : ∀ j u, news[j]? = some u → w.cell? (a.add j) = some u) (h1 : ∀ u ∈ news, u.oneCell' = true)
    (h63 : n + m ≤ maxLen) (hbytes : (n + m) * bytes ≤ 140737488355328) (hbase : B ≤ w.heap.size) :
    ∃ v' w', (Builtin.append_ #[t, t] ty #[v, .slice (some a) m c]).run Tryz.prog w = .ok v' w' ∧ w'.ownsRow B e size v' (n + m) (xs ++ news) ∧ w.grownBy w' v.ownBlock ∧ newBlock v v' w := by
  obtain ⟨i, z, hi, hz, hsize, hby, hzs⟩ := T.info
  obtain ⟨v', w', hrun, h2, h3, _, h5⟩ := run_append_own_at (P := Tryz.prog) w B t ty e i z size bytes T.slice hi hz hsize hby hzs T.pos v n xs hown a m c news hl hnews h1 h63 hbytes hbase
  refine ⟨v', w', hrun, h2, h3, fun k hk => ?_⟩
  rcases h5 with h5 | h5
  · exact .inl (h5 ▸ hk)
  · rw [h5] at hk
    exact .inr (by injection hk with hk; omega)
theorem run_app {w : World} {t ty e : TypeId} {size bytes : Nat} (T : TyOk t e size bytes) {B : Nat} {v : Value} {rows : List (List Value)} (hown : OwnAt w B e size v rows)
    {A : Option Addr} {m c : Nat} {rows2 : List (List Value)} (hr : RowAt w size (.slice A m c) rows2) (h1 : ∀ r ∈ rows2, ∀ u ∈ r, u.oneCell' = true)
    (hroom : rows.length + rows2.length ≤ 1000000000 ∧ bytes ≤ 1000) (hbase : B ≤ w.heap.size) :
    ∃ a cap w', (Builtin.append_ #[t, t] ty #[v, .slice A m c]).run Tryz.prog w = .ok (.slice a (rows.length + rows2.length) cap) w' ∧ OwnAt w' B e size (.slice a (rows.length + rows2.length) cap) (rows ++ rows2) ∧ Keeps (fun j => v.ownBlock = some j) w w' ∧ newBlock v (.slice a (rows.length + rows2.length) cap) w := by
  have hb : (rows.length + rows2.length) * bytes ≤ 140737488355328 := by
    have : (rows.length + rows2.length) * bytes ≤ 1000000000 * 1000 := Nat.mul_le_mul hroom.1 hroom.2
    omega
  have hlen2 : ∀ r ∈ rows2, r.length = size := fun r hx => by
    obtain ⟨_, _, _, _, hq⟩ := hr
    obtain ⟨i, hi⟩ := List.getElem?_of_mem hx
    exact (hq i r hi).1
  obtain ⟨la, c', hv, hle, _⟩ := hr
  have hm : m = rows2.length := by simp only [Value.slice.injEq] at hv; omega
  have hr' : RowAt w size (.slice A m c) rows2 := by rw [hv]; exact ⟨la, c', rfl, hle, by assumption⟩
  subst hm
  rcases A with _ | ad
  · obtain ⟨h0, rfl⟩ := row_ad hr'
    obtain ⟨a, cap, rfl⟩ := own_form hown.1
    exact ⟨a, cap, w, run_append_of_nil2 T hown.1 c, by simpa using hown, Keeps.refl _ _, fun k hk => .inl hk⟩
  · obtain ⟨v', w', q1, q2, q3, q4⟩ := run_append_ad (ty := ty) T hown.1 ad rows2.length c rows2.flatten (flat_len rows2 hlen2) (row_news T.pos hr') (fun u hu => by obtain ⟨r, hr1, hr2⟩ := List.mem_flatten.1 hu; exact h1 r hr1 u hr2) (by unfold maxLen; omega) hb hbase
    obtain ⟨a, cap, rfl⟩ := own_form q2
    refine ⟨a, cap, w', q1, ⟨?_, fun r hx => ?_⟩, Keeps.grown q3 (fun k hk => hk), q4⟩
    · rw [List.length_append, List.flatten_append]
      exact q2
    · rcases List.mem_append.1 hx with hx | hx
      · exact hown.2 r hx
      · exact hlen2 r hx
theorem wpList_app {w : World} {t e : TypeId} {size bytes : Nat} (T : TyOk t e size bytes) {ops : Array Oper} {rest : List Oper} {o : Oper} {act : Act} {Q : Exit → Act → World → Prop} (hgd : o.guard = none) (s x : Operand)
    (ho : o.op = .call { callee := .builtin .append, args := #[s, x], argTypes := #[t, t] }) {B : Nat} {v : Value} {rows : List (List Value)} (hs : act.eval s = v) (hown : OwnAt w B e size v rows)
    {A : Option Addr} {m c : Nat} {rows2 : List (List Value)} (hx : act.eval x = .slice A m c) (hr : RowAt w size (.slice A m c) rows2) (h1 : ∀ r ∈ rows2, ∀ u ∈ r, u.oneCell' = true)
    (hroom : rows.length + rows2.length ≤ 1000000000 ∧ bytes ≤ 1000) (hbase : B ≤ w.heap.size)
    (h : ∀ a cap w', OwnAt w' B e size (.slice a (rows.length + rows2.length) cap) (rows ++ rows2) → Keeps (fun j => v.ownBlock = some j) w w' → newBlock v (.slice a (rows.length + rows2.length) cap) w → wpList Tryz.prog ops Q rest (act.put o.dst (.slice a (rows.length + rows2.length) cap)) w') : wpList Tryz.prog ops Q (o :: rest) act w := by
  refine wpList_plain hgd fun K hK => ?_
  obtain ⟨a, cap, w', q1, q2, q3, q4⟩ := run_app (ty := o.type) T hown hr h1 hroom hbase
  have hh := h a cap w' q2 q3 q4
  unfold Oper.wp execOp
  simp only [ho, resolve, invoke, builtin, Sem.run_bind, Sem.run_pure, Result.andThen_ok, List.map_toArray, List.map_cons, List.map_nil, hs, hx, q1]
  exact hK _ _ hh
/-- append, as one step of a region that draws -/
theorem step_app {w : World} {t e : TypeId} {size bytes : Nat} (T : TyOk t e size bytes) {ops : Array Oper} {o : Oper} {act : Act} {K : Act → World → Prop} {Q : Exit → Act → World → Prop} {E : Prop} (hgd : o.guard = none) (s x : Operand)
    (ho : o.op = .call { callee := .builtin .append, args := #[s, x], argTypes := #[t, t] }) {B : Nat} {v : Value} {rows : List (List Value)} (hs : act.eval s = v) (hown : OwnAt w B e size v rows)
    {A : Option Addr} {m c : Nat} {rows2 : List (List Value)} (hx : act.eval x = .slice A m c) (hr : RowAt w size (.slice A m c) rows2) (h1 : ∀ r ∈ rows2, ∀ u ∈ r, u.oneCell' = true)
    (hroom : rows.length + rows2.length ≤ 1000000000 ∧ bytes ≤ 1000) (hbase : B ≤ w.heap.size)
    (h : ∀ a cap w', OwnAt w' B e size (.slice a (rows.length + rows2.length) cap) (rows ++ rows2) → Keeps (fun j => v.ownBlock = some j) w w' → newBlock v (.slice a (rows.length + rows2.length) cap) w → K (act.put o.dst (.slice a (rows.length + rows2.length) cap)) w') :
    if Region.wanted o (yielded ops act.tmps) = true then Oper.wp Tryz.prog o act w K Q else E := by
  have hw : Region.wanted o (yielded ops act.tmps) = true := by simp [Region.wanted, hgd]
  rw [if_pos hw]
  obtain ⟨a, cap, w', q1, q2, q3, q4⟩ := run_app (ty := o.type) T hown hr h1 hroom hbase
  have hh := h a cap w' q2 q3 q4
  unfold Oper.wp execOp
  simp only [ho, resolve, invoke, builtin, Sem.run_bind, Sem.run_pure, Result.andThen_ok, List.map_toArray, List.map_cons, List.map_nil, hs, hx, q1]
  exact hh
theorem ty_int : TyOk 38 3 1 8 := by
  obtain ⟨i0, hi, hz0, hz1, hz2⟩ := info_of linfo_int
  exact ⟨Tryz.underlying38, ⟨i0, _, hi, hz0, hz1, hz2, rfl⟩, by decide⟩
/-- one thing more, its block just laid -/
theorem wpList_put {W : World} {t e : TypeId} {size bytes : Nat} (T : TyOk t e size bytes) {ops : Array Oper} {rest : List Oper} {o : Oper} {act : Act} {Q : Exit → Act → World → Prop} (hgd : o.guard = none) (s x : Operand)
    (ho : o.op = .call { callee := .builtin .append, args := #[s, x], argTypes := #[t, t] }) {B : Nat} {v : Value} {rows : List (List Value)} (hs : act.eval s = v) (hown : OwnAt W B e size v rows)
    (r : List Value) (hrl : r.length = size) (hx : act.eval x = .slice (some ⟨W.heap.size, 0, none⟩) 1 1) (h1 : ∀ u ∈ r, u.oneCell' = true)
    (hroom : rows.length + 1 ≤ 1000000000 ∧ bytes ≤ 1000) (hbase : B ≤ W.heap.size)
    (h : ∀ a cap w', OwnAt w' B e size (.slice a (rows.length + 1) cap) (rows ++ [r]) → Keeps (fun j => v.ownBlock = some j) W w' → newBlock v (.slice a (rows.length + 1) cap) W → wpList Tryz.prog ops Q rest (act.put o.dst (.slice a (rows.length + 1) cap)) w') : wpList Tryz.prog ops Q (o :: rest) act (W.alloc (.cells r.toArray e)) := by
  subst hrl
  have hB := (Below.refl W.heap.size W).alloc (Nat.le_refl _) (.cells r.toArray e)
  refine wpList_app T hgd s x ho hs (hown.later hB) hx (row_new W e r) (fun r' hr' u hu => by rw [List.mem_singleton.1 hr'] at hu; exact h1 u hu) hroom (by simp; omega) (fun a cap w' q1 q2 q3 => h a cap w' q1 (Keeps.trans (Keeps.of_below hB) q2 (fun j hj => .inl hj)) (newBlock_mono q3 (by simp)))
theorem own_below {W w' : World} {B : Nat} {e : TypeId} {size : Nat} {v : Value} {rows : List (List Value)} (hown : OwnAt W B e size v rows) (k : Keeps (fun j => v.ownBlock = some j) W w') (hB : B ≤ W.heap.size) : Below B W w' := k.below (fun j hj => (hown.1.lt j hj).1) hB
theorem ty_ins : TyOk 31 40 4 48 := by
  obtain ⟨i0, hi, hz0, hz1, hz2⟩ := info_of linfo_ins
  exact ⟨Tryz.underlying31, ⟨i0, _, hi, hz0, hz1, hz2, rfl⟩, by decide⟩
end Go.Proofs.YthkdegmnnbepdaaGreatDoor.Mod
