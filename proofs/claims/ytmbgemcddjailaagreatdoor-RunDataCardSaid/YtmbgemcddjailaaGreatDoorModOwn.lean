/-
  Own rows of things of more than one cell; append onto them, as laws over rows; code without labels as an own row. No condition beyond what each theorem names.
-/
import Derived.Test.YtmbgemcddjailaaGreatDoorModMem
import Derived.Test.YtmbgemcddjailaaGreatDoorPgS
import Derived.Laws.MakeOwn
import Derived.Maps.AppendAt
import Derived.Deep.DeepCutAuto
namespace Go.Proofs.YtmbgemcddjailaaGreatDoor.Mod
open Go.RowKit Go.Maps Go.Proofs.YtmbgemcddjailaaGreatDoor.Op Go.Proofs.YtmbgemcddjailaaGreatDoor.Pg
set_option linter.unusedVariables false
theorem flat_at {sz : Nat} (hs : 0 < sz) : ∀ (rows : List (List Value)) (j : Nat), (∀ r ∈ rows, r.length = sz) → rows.flatten[j]? = (rows[j / sz]?).bind fun r => r[j % sz]?
  | [], j, _ => by simp
  | r :: rows, j, h => by
    have hr : r.length = sz := h r (by simp)
    rw [List.flatten_cons]
    by_cases hj : j < sz
    · rw [List.getElem?_append_left (by omega), Nat.div_eq_of_lt hj, Nat.mod_eq_of_lt hj]
      simp
    · rw [List.getElem?_append_right (by omega), flat_at hs rows _ (fun x hx => h x (List.mem_cons_of_mem _ hx)), hr]
      rw [show j / sz = (j - sz) / sz + 1 from Nat.div_eq_sub_div hs (by omega), show j % sz = (j - sz) % sz by rw [Nat.mod_eq_sub_mod (by omega)]]
      simp
theorem flat_len {sz : Nat} : ∀ (rows : List (List Value)), (∀ r ∈ rows, r.length = sz) → rows.flatten.length = rows.length * sz
  | [], _ => by simp
  | r :: rows, h => by
    rw [List.flatten_cons, List.length_append, flat_len rows (fun x hx => h x (List.mem_cons_of_mem _ hx)), h r (by simp), List.length_cons, Nat.add_mul]
    omega
theorem row_news {w : World} {sz : Nat} (hs : 0 < sz) {ad : Addr} {n c : Nat} {rows : List (List Value)} (h : RowAt w sz (.slice (some ad) n c) rows) : ∀ (j : Nat) u, rows.flatten[j]? = some u → w.cell? (ad.add j) = some u := by
  obtain ⟨la, c', hv, _, hr⟩ := h
  simp only [Value.slice.injEq] at hv
  obtain ⟨rfl, _, _⟩ := hv
  intro j u hj
  have hlen : ∀ r ∈ rows, r.length = sz := fun r hx => by
    obtain ⟨i, hi⟩ := List.getElem?_of_mem hx
    exact (hr i r hi).1
  rw [flat_at hs rows j hlen] at hj
  obtain ⟨r, hri, hru⟩ := Option.bind_eq_some_iff.1 hj
  obtain ⟨_, b', o', he, _, hc⟩ := hr _ r hri
  obtain rfl := Option.some.inj he
  have := hc _ u hru
  rw [Addr.add_lit]
  rw [show o' + j / sz * sz + j % sz = o' + j by have := Nat.div_add_mod' j sz; omega] at this
  exact this
theorem linfo_ins : (Tryz.prog.info? 29).map (fun i => (i.zero, i.size, i.bytes)) = some (some (.agg #[.int .i64 0, .int .i64 0, .int .i64 0, .slice none 0 0]), 4, 48) := by kernel_rfl
theorem linfo_int : (Tryz.prog.info? 3).map (fun i => (i.zero, i.size, i.bytes)) = some (some (.int .i64 0), 1, 8) := by kernel_rfl
theorem ownsRow_base {w : World} {B B' : Nat} {e : TypeId} {size : Nat} {v : Value} {n : Nat} {xs : List Value} (h : w.ownsRow B' e size v n xs) (hb : B ≤ B') : w.ownsRow B e size v n xs := by
  refine ⟨h.1, ?_⟩
  rcases h.2 with h1 | ⟨g, cap, cur, h1, h2, h3⟩
  · exact .inl h1
  · exact .inr ⟨g, cap, cur, h1, Nat.le_trans hb h2, h3⟩
theorem ownsRow_below {w w' : World} {B : Nat} {e : TypeId} {size : Nat} {v : Value} {n : Nat} {xs : List Value} (h : w.ownsRow B e size v n xs) (hb : Below w.heap.size w w') : w'.ownsRow B e size v n xs :=
  ownsRow_of h (fun k hk => hb.block k (h.lt k hk).2)
/-- a row of the call's own, of things -/
def OwnAt (w : World) (B : Nat) (e : TypeId) (size : Nat) (v : Value) (rows : List (List Value)) : Prop := w.ownsRow B e size v rows.length rows.flatten ∧ ∀ r ∈ rows, r.length = size
theorem OwnAt.later {w w' : World} {B : Nat} {e : TypeId} {size : Nat} {v : Value} {rows : List (List Value)} (h : OwnAt w B e size v rows) (hb : Below w.heap.size w w') : OwnAt w' B e size v rows := ⟨ownsRow_below h.1 hb, h.2⟩
theorem OwnAt.row {w : World} {B : Nat} {e : TypeId} {size : Nat} {v : Value} {rows : List (List Value)} (h : OwnAt w B e size v rows) (hs : 0 < size) (hl : rows.length ≤ 9223372036854775807) : RowAt w size v rows := by
  rcases h.1.2 with ⟨h1, h2⟩ | ⟨g, cap, cur, h1, _⟩
  · obtain rfl : rows = [] := List.eq_nil_of_length_eq_zero h2
    exact ⟨none, 0, h1, by simp, fun i r hr => by simp at hr⟩
  · refine ⟨some ⟨g, 0, none⟩, cap, h1, hl, fun i r hr => ⟨h.2 r (List.mem_of_getElem? hr), g, 0, rfl, ?_, fun j u hu => ?_⟩⟩
    · have := h.1
      rw [h1] at this
      exact (this.lt g rfl).2
    · have ho := h.1
      rw [h1] at ho
      have hi := (List.getElem?_eq_some_iff.1 hr).1
      have hj : j < size := by have := (List.getElem?_eq_some_iff.1 hu).1; rw [h.2 r (List.mem_of_getElem? hr)] at this; exact this
      have hij : i * size + j < rows.length * size := by
        have : (i + 1) * size ≤ rows.length * size := Nat.mul_le_mul_right _ hi
        rw [Nat.add_mul] at this
        omega
      rw [Nat.zero_add, ho.cellAt _ hij, flat_at hs rows _ h.2]
      rw [show (i * size + j) / size = i by rw [Nat.mul_comm, Nat.mul_add_div hs, Nat.div_eq_of_lt hj]; omega, show (i * size + j) % size = j by rw [Nat.mul_comm, Nat.mul_add_mod, Nat.mod_eq_of_lt hj]]
      rw [hr]
      exact hu
/-- what a slice that came in hands to list -/
theorem listOf {w : World} {size : Nat} {v : Value} {α : Type} {R : World → List Value → α → Prop} {l : List α} (h : ListAt size R w v l) : ∃ la c rows, v = .slice la rows.length c ∧ RowAt w size (.slice la rows.length c) rows ∧ rows.length = l.length ∧ (∀ (i : Nat) r x, rows[i]? = some r → l[i]? = some x → R w r x) ∧ ∀ r ∈ rows, r.length = size := by
  obtain ⟨rows, hr, hl, hx⟩ := h
  have hr0 := hr
  obtain ⟨la, c, rfl, _, hr⟩ := hr
  exact ⟨la, c, rows, rfl, hr0, hl, hx, fun r hm => by obtain ⟨i, hi⟩ := List.getElem?_of_mem hm; exact (hr i r hi).1⟩
theorem cells_map {α : Type} {R : World → List Value → α → Prop} {w : World} (c : α → List Value) (hR : ∀ r x, R w r x → r = c x) {rows : List (List Value)} {l : List α} (hl : rows.length = l.length) (hx : ∀ (i : Nat) r x, rows[i]? = some r → l[i]? = some x → R w r x) : rows = l.map c := by
  refine List.ext_getElem? (fun i => ?_)
  rw [List.getElem?_map]
  by_cases hi : i < l.length
  · rw [List.getElem?_eq_getElem hi, List.getElem?_eq_getElem (by omega)]
    exact congrArg some (hR _ _ (hx i _ _ (List.getElem?_eq_getElem (by omega)) (List.getElem?_eq_getElem hi)))
  · rw [List.getElem?_eq_none (by omega), List.getElem?_eq_none (by omega)]
    rfl
theorem own_form {w : World} {B : Nat} {e : TypeId} {size : Nat} {v : Value} {n : Nat} {xs : List Value} (h : w.ownsRow B e size v n xs) : ∃ a c, v = .slice a n c := by
  rcases h.2 with ⟨h1, h2⟩ | ⟨g, cap, cur, h1, _⟩
  · exact ⟨none, 0, by rw [h1, h2]⟩
  · exact ⟨_, cap, h1⟩
/-- a slice's type: of what, how many cells, how many bytes -/
structure TyOk (t e : TypeId) (size bytes : Nat) : Prop where
  slice : Tryz.prog.underlying t = some (.slice e)
  info : ∃ i z, Tryz.prog.info? e = some i ∧ i.zero = some z ∧ i.size = size ∧ i.bytes = bytes ∧ z.cells.size = size
  pos : 0 < size
theorem own_nil (w : World) (B : Nat) (e : TypeId) (size : Nat) : OwnAt w B e size (.slice none 0 0) [] := ⟨World.ownsRow_nil _ _ _ _, fun r hr => by cases hr⟩
theorem row_nil (w : World) (size c : Nat) : RowAt w size (.slice none 0 c) [] := ⟨none, c, rfl, Nat.zero_le _, fun i r hr => by simp at hr⟩
theorem row_new (W : World) (e : TypeId) (r : List Value) : RowAt (W.alloc (.cells r.toArray e)) r.length (.slice (some ⟨W.heap.size, 0, none⟩) 1 1) [r] := by
  refine ⟨_, 1, rfl, (show 1 ≤ 9223372036854775807 by decide), fun i s hs => ?_⟩
  have hi := (List.getElem?_eq_some_iff.1 hs).1
  obtain rfl : i = 0 := by simp at hi; exact hi
  obtain rfl : r = s := by simpa using hs
  refine ⟨rfl, W.heap.size, 0, rfl, by simp, fun j u hu => ?_⟩
  rw [Nat.zero_mul, Nat.zero_add, World.cell?_alloc_at _ _ _ _ rfl, ← Array.getElem?_toList]
  exact hu
theorem row_ad {w : World} {size n c : Nat} {rows : List (List Value)} (h : RowAt w size (.slice none n c) rows) : n = 0 ∧ rows = [] := by
  obtain ⟨la, c', hv, _, hr⟩ := h
  simp only [Value.slice.injEq] at hv
  obtain ⟨h1, h2, _⟩ := hv
  subst h1
  cases rows with
  | nil => exact ⟨h2, rfl⟩
  | cons r rs =>
    obtain ⟨_, _, _, he, _⟩ := hr 0 r rfl
    cases he
theorem run_append_of_nil2 {w : World} {t ty e : TypeId} {size bytes : Nat} (T : TyOk t e size bytes) {B : Nat} {v : Value} {n : Nat} {xs : List Value} (hown : w.ownsRow B e size v n xs) (c : Nat) : (Builtin.append_ #[t, t] ty #[v, .slice none 0 c]).run Tryz.prog w = .ok v w := by
  obtain ⟨i, z, hi, _⟩ := T.info
  rcases hown.2 with ⟨rfl, rfl⟩ | ⟨g, cap, cur, rfl, _, _, hnc, _⟩
  · simp [Builtin.append_, run_underlying T.slice, sizeOf, typeInfo, hi, Builtin.lenOf, Builtin.firstCells]
  · simp [Builtin.append_, run_underlying T.slice, sizeOf, typeInfo, hi, Builtin.lenOf, Builtin.firstCells, hnc, storeCells]
/-- append of an addressed source: where the answer lies -/
theorem run_append_ad {w : World} {t ty e : TypeId} {size bytes : Nat} (T : TyOk t e size bytes) {B : Nat} {v : Value} {n : Nat} {xs : List Value} (hown : w.ownsRow B e size v n xs)
    (a : Addr) (m c : Nat) (news : List Value) (hl : news.length = m * size) (hnews : ∀ j u, news[j]? = some u → w.cell? (a.add j) = some u) (h1 : ∀ u ∈ news, u.oneCell' = true)
    (h63 : n + m ≤ maxLen) (hbytes : (n + m) * bytes ≤ 140737488355328) (hbase : B ≤ w.heap.size) :
    ∃ v' w', (Builtin.append_ #[t, t] ty #[v, .slice (some a) m c]).run Tryz.prog w = .ok v' w' ∧ w'.ownsRow B e size v' (n + m) (xs ++ news) ∧ w.grownBy w' v.ownBlock ∧ newBlock v v' w := by
  obtain ⟨i, z, hi, hz, hsize, hby, hzs⟩ := T.info
  obtain ⟨v', w', hrun, h2, h3, _, h5⟩ := run_append_own_at (P := Tryz.prog) w B t ty e i z size bytes T.slice hi hz hsize hby hzs T.pos v n xs hown a m c news hl hnews h1 h63 hbytes hbase
  refine ⟨v', w', hrun, h2, h3, fun k hk => ?_⟩
  rcases h5 with h5 | h5
  · exact .inl (h5 ▸ hk)
  · rw [h5] at hk
    exact .inr (by injection hk with hk; omega)
theorem run_app {w : World} {t ty e : TypeId} {size bytes : Nat} (T : TyOk t e size bytes) {B : Nat} {v : Value} {rows : List (List Value)} (hown : OwnAt w B e size v rows)
    {A : Option Addr} {m c : Nat} {rows2 : List (List Value)} (hr : RowAt w size (.slice A m c) rows2) (h1 : ∀ r ∈ rows2, ∀ u ∈ r, u.oneCell' = true)
    (hroom : rows.length + rows2.length ≤ 1000000000 ∧ bytes ≤ 1000) (hbase : B ≤ w.heap.size) :
    ∃ a cap w', (Builtin.append_ #[t, t] ty #[v, .slice A m c]).run Tryz.prog w = .ok (.slice a (rows.length + rows2.length) cap) w' ∧ OwnAt w' B e size (.slice a (rows.length + rows2.length) cap) (rows ++ rows2) ∧ Keeps (fun j => v.ownBlock = some j) w w' ∧ newBlock v (.slice a (rows.length + rows2.length) cap) w := by
  have hb : (rows.length + rows2.length) * bytes ≤ 140737488355328 := by
    have : (rows.length + rows2.length) * bytes ≤ 1000000000 * 1000 := Nat.mul_le_mul hroom.1 hroom.2
    omega
  have hlen2 : ∀ r ∈ rows2, r.length = size := fun r hx => by
    obtain ⟨_, _, _, _, hq⟩ := hr
    obtain ⟨i, hi⟩ := List.getElem?_of_mem hx
    exact (hq i r hi).1
  obtain ⟨la, c', hv, hle, _⟩ := hr
  have hm : m = rows2.length := by simp only [Value.slice.injEq] at hv; omega
  have hr' : RowAt w size (.slice A m c) rows2 := by rw [hv]; exact ⟨la, c', rfl, hle, by assumption⟩
  subst hm
  rcases A with _ | ad
  · obtain ⟨h0, rfl⟩ := row_ad hr'
    obtain ⟨a, cap, rfl⟩ := own_form hown.1
    exact ⟨a, cap, w, run_append_of_nil2 T hown.1 c, by simpa using hown, Keeps.refl _ _, fun k hk => .inl hk⟩
  · obtain ⟨v', w', q1, q2, q3, q4⟩ := run_append_ad (ty := ty) T hown.1 ad rows2.length c rows2.flatten (flat_len rows2 hlen2) (row_news T.pos hr') (fun u hu => by obtain ⟨r, hr1, hr2⟩ := List.mem_flatten.1 hu; exact h1 r hr1 u hr2) (by unfold maxLen; omega) hb hbase
    obtain ⟨a, cap, rfl⟩ := own_form q2
    refine ⟨a, cap, w', q1, ⟨?_, fun r hx => ?_⟩, Keeps.grown q3 (fun k hk => hk), q4⟩
    · rw [List.length_append, List.flatten_append]
      exact q2
    · rcases List.mem_append.1 hx with hx | hx
      · exact hown.2 r hx
      · exact hlen2 r hx
theorem wpList_app {w : World} {t e : TypeId} {size bytes : Nat} (T : TyOk t e size bytes) {ops : Array Oper} {rest : List Oper} {o : Oper} {act : Act} {Q : Exit → Act → World → Prop} (hgd : o.guard = none) (s x : Operand)
    (ho : o.op = .call { callee := .builtin .append, args := #[s, x], argTypes := #[t, t] }) {B : Nat} {v : Value} {rows : List (List Value)} (hs : act.eval s = v) (hown : OwnAt w B e size v rows)
    {A : Option Addr} {m c : Nat} {rows2 : List (List Value)} (hx : act.eval x = .slice A m c) (hr : RowAt w size (.slice A m c) rows2) (h1 : ∀ r ∈ rows2, ∀ u ∈ r, u.oneCell' = true)
    (hroom : rows.length + rows2.length ≤ 1000000000 ∧ bytes ≤ 1000) (hbase : B ≤ w.heap.size)
    (h : ∀ a cap w', OwnAt w' B e size (.slice a (rows.length + rows2.length) cap) (rows ++ rows2) → Keeps (fun j => v.ownBlock = some j) w w' → newBlock v (.slice a (rows.length + rows2.length) cap) w → wpList Tryz.prog ops Q rest (act.put o.dst (.slice a (rows.length + rows2.length) cap)) w') : wpList Tryz.prog ops Q (o :: rest) act w := by
  refine wpList_plain hgd fun K hK => ?_
  obtain ⟨a, cap, w', q1, q2, q3, q4⟩ := run_app (ty := o.type) T hown hr h1 hroom hbase
  have hh := h a cap w' q2 q3 q4
  unfold Oper.wp execOp
  simp only [ho, resolve, invoke, builtin, Sem.run_bind, Sem.run_pure, Result.andThen_ok, List.map_toArray, List.map_cons, List.map_nil, hs, hx, q1]
  exact hK _ _ hh
/-- append, as one step of a region that draws -/
theorem step_app {w : World} {t e : TypeId} {size bytes : Nat} (T : TyOk t e size bytes) {ops : Array Oper} {o : Oper} {act : Act} {K : Act → World → Prop} {Q : Exit → Act → World → Prop} {E : Prop} (hgd : o.guard = none) (s x : Operand)
    (ho : o.op = .call { callee := .builtin .append, args := #[s, x], argTypes := #[t, t] }) {B : Nat} {v : Value} {rows : List (List Value)} (hs : act.eval s = v) (hown : OwnAt w B e size v rows)
    {A : Option Addr} {m c : Nat} {rows2 : List (List Value)} (hx : act.eval x = .slice A m c) (hr : RowAt w size (.slice A m c) rows2) (h1 : ∀ r ∈ rows2, ∀ u ∈ r, u.oneCell' = true)
    (hroom : rows.length + rows2.length ≤ 1000000000 ∧ bytes ≤ 1000) (hbase : B ≤ w.heap.size)
    (h : ∀ a cap w', OwnAt w' B e size (.slice a (rows.length + rows2.length) cap) (rows ++ rows2) → Keeps (fun j => v.ownBlock = some j) w w' → newBlock v (.slice a (rows.length + rows2.length) cap) w → K (act.put o.dst (.slice a (rows.length + rows2.length) cap)) w') :
    if Region.wanted o (yielded ops act.tmps) = true then Oper.wp Tryz.prog o act w K Q else E := by
  have hw : Region.wanted o (yielded ops act.tmps) = true := by simp [Region.wanted, hgd]
  rw [if_pos hw]
  obtain ⟨a, cap, w', q1, q2, q3, q4⟩ := run_app (ty := o.type) T hown hr h1 hroom hbase
  have hh := h a cap w' q2 q3 q4
  unfold Oper.wp execOp
  simp only [ho, resolve, invoke, builtin, Sem.run_bind, Sem.run_pure, Result.andThen_ok, List.map_toArray, List.map_cons, List.map_nil, hs, hx, q1]
  exact hh
theorem ty_int : TyOk 27 3 1 8 := by
  obtain ⟨i0, hi, hz0, hz1, hz2⟩ := info_of linfo_int
  exact ⟨Tryz.underlying27, ⟨i0, _, hi, hz0, hz1, hz2, rfl⟩, by decide⟩
/-- one thing more, its block just laid -/
theorem wpList_put {W : World} {t e : TypeId} {size bytes : Nat} (T : TyOk t e size bytes) {ops : Array Oper} {rest : List Oper} {o : Oper} {act : Act} {Q : Exit → Act → World → Prop} (hgd : o.guard = none) (s x : Operand)
    (ho : o.op = .call { callee := .builtin .append, args := #[s, x], argTypes := #[t, t] }) {B : Nat} {v : Value} {rows : List (List Value)} (hs : act.eval s = v) (hown : OwnAt W B e size v rows)
    (r : List Value) (hrl : r.length = size) (hx : act.eval x = .slice (some ⟨W.heap.size, 0, none⟩) 1 1) (h1 : ∀ u ∈ r, u.oneCell' = true)
    (hroom : rows.length + 1 ≤ 1000000000 ∧ bytes ≤ 1000) (hbase : B ≤ W.heap.size)
    (h : ∀ a cap w', OwnAt w' B e size (.slice a (rows.length + 1) cap) (rows ++ [r]) → Keeps (fun j => v.ownBlock = some j) W w' → newBlock v (.slice a (rows.length + 1) cap) W → wpList Tryz.prog ops Q rest (act.put o.dst (.slice a (rows.length + 1) cap)) w') : wpList Tryz.prog ops Q (o :: rest) act (W.alloc (.cells r.toArray e)) := by
  subst hrl
  have hB := (Below.refl W.heap.size W).alloc (Nat.le_refl _) (.cells r.toArray e)
  refine wpList_app T hgd s x ho hs (hown.later hB) hx (row_new W e r) (fun r' hr' u hu => by rw [List.mem_singleton.1 hr'] at hu; exact h1 u hu) hroom (by simp; omega) (fun a cap w' q1 q2 q3 => h a cap w' q1 (Keeps.trans (Keeps.of_below hB) q2 (fun j hj => .inl hj)) (newBlock_mono q3 (by simp)))
theorem own_below {W w' : World} {B : Nat} {e : TypeId} {size : Nat} {v : Value} {rows : List (List Value)} (hown : OwnAt W B e size v rows) (k : Keeps (fun j => v.ownBlock = some j) W w') (hB : B ≤ W.heap.size) : Below B W w' := k.below (fun j hj => (hown.1.lt j hj).1) hB
theorem ty_ins : TyOk 30 29 4 48 := by
  obtain ⟨i0, hi, hz0, hz1, hz2⟩ := info_of linfo_ins
  exact ⟨Tryz.underlying30, ⟨i0, _, hi, hz0, hz1, hz2, rfl⟩, by decide⟩
/-- code of no labels, an own row -/
def Cod (w : World) (B : Nat) (v : Value) (c : List Ins) : Prop := OwnAt w B 29 4 v (c.map Ins.cells)
theorem Cod.at {w : World} {B : Nat} {v : Value} {c : List Ins} (h : Cod w B v c) (hl : c.length ≤ 1000000000) (hw : ∀ x ∈ c, (Lit.int .i64 x.op).wf = true) : CodeAt w v (c.map toL) := by
  have h2 : OwnAt w B 29 4 v ((c.map toL).map fun x => [.int .i64 x.op, .int .i64 x.a, .int .i64 x.b, .slice none 0 0]) := by
    rw [List.map_map]
    exact h
  refine ⟨_, h2.row (by decide) (by rw [List.length_map, List.length_map]; omega), by rw [List.length_map], fun i r x hr hx => ?_⟩
  rw [List.getElem?_map, hx] at hr
  obtain rfl := Option.some.inj hr
  have hm := List.mem_of_getElem? hx
  obtain ⟨y, hy, rfl⟩ := List.mem_map.1 hm
  exact ⟨.slice none 0 0, rfl, .inl ⟨rfl, rfl⟩, hw y hy⟩
theorem ins_cells_one (x : Ins) : ∀ u ∈ x.cells, u.oneCell' = true := by
  intro u hu
  simp [Ins.cells] at hu
  rcases hu with rfl | rfl | rfl | rfl <;> rfl
theorem cod_len {w : World} {B : Nat} {a : Option Addr} {n m cap : Nat} {c : List Ins} (h : Cod w B (.slice a n cap) c) (e : m = n) : Cod w B (.slice a m cap) c := by rw [e]; exact h
theorem Cod.later {w w' : World} {B : Nat} {v : Value} {c : List Ins} (h : Cod w B v c) (hb : Below w.heap.size w w') : Cod w' B v c := OwnAt.later h hb
theorem Cod.new (W : World) (o a b : Int) : Cod (W.alloc (.cells #[.int .i64 o, .int .i64 a, .int .i64 b, .slice none 0 0] 29)) W.heap.size (.slice (some ⟨W.heap.size, 0, none⟩) 1 1) [⟨o, a, b⟩] :=
  ⟨⟨rfl, .inr ⟨W.heap.size, 1, _, rfl, Nat.le_refl _, heap_alloc_new _ _, Nat.le_refl _, by decide, rfl, rfl⟩⟩, fun r hr => by rw [List.mem_singleton.1 hr]; rfl⟩
theorem Cod.nil (w : World) (B : Nat) : Cod w B (.slice none 0 0) [] := own_nil _ _ _ _
/-- one instruction more -/
theorem wpList_ins {W : World} {ops : Array Oper} {rest : List Oper} {o : Oper} {act : Act} {Q : Exit → Act → World → Prop} (hgd : o.guard = none) (s x : Operand)
    (ho : o.op = .call { callee := .builtin .append, args := #[s, x], argTypes := #[30, 30] }) {B : Nat} {v : Value} {c : List Ins} (hs : act.eval s = v) (hown : Cod W B v c)
    (op a b : Int) (hx : act.eval x = .slice (some ⟨W.heap.size, 0, none⟩) 1 1) (hroom : c.length < 1000000000) (hbase : B ≤ W.heap.size)
    (h : ∀ a' cap w', Cod w' B (.slice a' (c.length + 1) cap) (c ++ [⟨op, a, b⟩]) → Keeps (fun j => v.ownBlock = some j) W w' → newBlock v (.slice a' (c.length + 1) cap) W → wpList Tryz.prog ops Q rest (act.put o.dst (.slice a' (c.length + 1) cap)) w') : wpList Tryz.prog ops Q (o :: rest) act (W.alloc (.cells #[.int .i64 op, .int .i64 a, .int .i64 b, .slice none 0 0] 29)) := by
  refine wpList_put ty_ins hgd s x ho hs hown (Ins.cells ⟨op, a, b⟩) rfl hx (ins_cells_one _) ⟨by rw [List.length_map]; omega, by decide⟩ hbase (fun a' cap w' q1 q2 q3 => ?_)
  rw [List.length_map] at q1 q3 ⊢
  refine h a' cap w' ?_ q2 q3
  unfold Cod
  rw [List.map_append]
  exact q1
/-- a copy of code, onto nil -/
theorem wpList_whole {W : World} {ops : Array Oper} {rest : List Oper} {o : Oper} {act : Act} {Q : Exit → Act → World → Prop} (hgd : o.guard = none) (s x : Operand)
    (ho : o.op = .call { callee := .builtin .append, args := #[s, x], argTypes := #[30, 30] }) {B B0 : Nat} {v v0 : Value} {c c0 : List Ins} (hs : act.eval s = v0) (hown0 : Cod W B0 v0 c0) (hx : act.eval x = v) (hown : Cod W B v c)
    (hroom : c0.length + c.length ≤ 1000000000) (hbase : B0 ≤ W.heap.size)
    (h : ∀ a' cap w', Cod w' B0 (.slice a' (c0.length + c.length) cap) (c0 ++ c) → Keeps (fun j => v0.ownBlock = some j) W w' → newBlock v0 (.slice a' (c0.length + c.length) cap) W → wpList Tryz.prog ops Q rest (act.put o.dst (.slice a' (c0.length + c.length) cap)) w') : wpList Tryz.prog ops Q (o :: rest) act W := by
  have hrow := OwnAt.row hown (by decide) (by rw [List.length_map]; omega)
  obtain ⟨A, cp, rfl⟩ := own_form hown.1
  refine wpList_app ty_ins hgd s x ho hs hown0 hx hrow (fun r hr u hu => by obtain ⟨y, _, rfl⟩ := List.mem_map.1 hr; exact ins_cells_one y u hu) ⟨by rw [List.length_map, List.length_map]; omega, by decide⟩ hbase (fun a' cap w' q1 q2 q3 => ?_)
  rw [List.length_map, List.length_map] at q1 q3 ⊢
  refine h a' cap w' ?_ q2 q3
  unfold Cod
  rw [List.map_append]
  exact q1
end Go.Proofs.YtmbgemcddjailaaGreatDoor.Mod
