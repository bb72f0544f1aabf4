/-
  Append onto code that begins within a row: its answer as rows. Plain but for the model's append.
-/
import Derived.Test.YthcjgdmmpopplaaGreatDoorVldCal
namespace Go.Proofs.YthcjgdmmpopplaaGreatDoor.Vld
open Go.RowKit Go.Maps Go.Lib Go.Proofs.YthcjgdmmpopplaaGreatDoor.Op Go.Proofs.YthcjgdmmpopplaaGreatDoor.Mod Go.Proofs.YthcjgdmmpopplaaGreatDoor.Pg
set_option linter.unusedVariables false
/-- within a row, there is room: in place -/
theorem run_append_in {w : World} {t ty e : TypeId} {size bytes : Nat} (T : TyOk t e size bytes) (g off sLen sCap : Nat) (cur : Array Value) (hg : w.heap[g]? = some (.cells cur e (0, 0)))
    (a : Addr) (m c : Nat) (news : List Value) (hl : news.length = m * size) (hnews : ∀ j u, news[j]? = some u → w.cell? (a.add j) = some u) (h1 : ∀ u ∈ news, u.oneCell' = true)
    (hroom : sLen + m ≤ sCap) (hfit : off + sLen * size + news.length ≤ cur.size) :
    (Builtin.append_ #[t, t] ty #[.slice (some ⟨g, off, none⟩) sLen sCap, .slice (some a) m c]).run Tryz.prog w =
      .ok (.slice (some ⟨g, off, none⟩) (sLen + m) sCap) (w.setRow g (cur.toList.take (off + sLen * size) ++ news ++ cur.toList.drop (off + sLen * size + news.length)).toArray) := by
  obtain ⟨i, z, hi, hz, hsize, hby, hzs⟩ := T.info
  subst hsize
  have hf := run_firstCells_some (P := Tryz.prog) w i.size m a m c news hl hnews
  have hst := run_storeCells_at Tryz.prog g (off + sLen * i.size) e news 0 cur w hg (by simpa using hfit) h1
  simp only [Nat.add_zero] at hst
  simp [Builtin.append_, run_underlying T.slice, sizeOf, typeInfo, hi, Builtin.lenOf, hroom, hf, Addr.add_lit, hst]
/-- code that begins within a block -/
def OffAt (w : World) (B : Nat) (v : Value) (c : List Ins) : Prop :=
  ∃ g off cap cur, v = .slice (some ⟨g, off, none⟩) c.length cap ∧ B ≤ g ∧ w.heap[g]? = some (.cells cur 38 (0, 0)) ∧ c.length ≤ cap ∧ cap ≤ maxLen ∧ off + cap * 4 ≤ cur.size ∧ (cur.toList.drop off).take (c.length * 4) = (c.map Ins.cells).flatten
theorem ins_len (c : List Ins) : ∀ r ∈ c.map Ins.cells, r.length = 4 := fun r hr => by obtain ⟨x, _, rfl⟩ := List.mem_map.1 hr; rfl
theorem ins_flat (c : List Ins) : (c.map Ins.cells).flatten.length = c.length * 4 := by rw [flat_len _ (ins_len c), List.length_map]
theorem off_cell {w : World} {g off : Nat} {cur : Array Value} (hg : w.heap[g]? = some (.cells cur 38 (0, 0))) {c : List Ins} (hf : (cur.toList.drop off).take (c.length * 4) = (c.map Ins.cells).flatten) {j : Nat} {u : Value} (hu : (c.map Ins.cells).flatten[j]? = some u) : w.cell? ⟨g, off + j, none⟩ = some u := by
  have hj := (List.getElem?_eq_some_iff.1 hu).1
  rw [ins_flat] at hj
  rw [← hf, List.getElem?_take, if_pos hj, List.getElem?_drop, Array.getElem?_toList] at hu
  exact box_at hg _ _ hu
theorem OffAt.row {w : World} {B : Nat} {v : Value} {c : List Ins} (h : OffAt w B v c) (hl : c.length ≤ 1000000000) : RowAt w 4 v (c.map Ins.cells) := by
  obtain ⟨g, off, cap, cur, rfl, _, hg, _, _, _, hf⟩ := h
  refine ⟨_, cap, by rw [List.length_map], by rw [List.length_map]; omega, fun i r hr => ⟨ins_len c r (List.mem_of_getElem? hr), g, off, rfl, (Array.getElem?_eq_some_iff.1 hg).1, fun j u hu => ?_⟩⟩
  have hj := (List.getElem?_eq_some_iff.1 hu).1
  rw [ins_len c r (List.mem_of_getElem? hr)] at hj
  rw [Nat.add_assoc]
  refine off_cell hg hf ?_
  rw [flat_at (by decide) _ _ (ins_len c), show (i * 4 + j) / 4 = i by omega, show (i * 4 + j) % 4 = j by omega, hr]
  exact hu
theorem OffAt.later {w w' : World} {B : Nat} {v : Value} {c : List Ins} (h : OffAt w B v c) (hb : Below w.heap.size w w') : OffAt w' B v c := by
  obtain ⟨g, off, cap, cur, h1, h2, hg, h3⟩ := h
  exact ⟨g, off, cap, cur, h1, h2, box_later hb hg, h3⟩
theorem OffAt.code {w : World} {B : Nat} {v : Value} {c : List Ins} (h : OffAt w B v c) (hl : c.length ≤ 1000000000) (hw : ∀ x ∈ c, (Lit.int .i64 x.op).wf = true) : CodeAt w v (c.map toL) := by
  refine ⟨_, h.row hl, by rw [List.length_map, List.length_map], fun i r x hr hx => ?_⟩
  rw [List.getElem?_map] at hr hx
  obtain ⟨y, hy, rfl⟩ := Option.map_eq_some_iff.1 hx
  rw [hy] at hr
  obtain rfl := Option.some.inj hr
  exact ⟨.slice none 0 0, rfl, .inl ⟨rfl, rfl⟩, hw y (List.mem_of_getElem? hy)⟩
theorem OffAt.of_cod {w : World} {B : Nat} {v : Value} {c : List Ins} (h : Cod w B v c) (hne : c ≠ []) : OffAt w B v c := by
  rcases h.1.2 with ⟨h1, h2⟩ | ⟨g, cap, cur, h1, hb, hg, h2, h3, h4, h5⟩
  · rw [List.length_map] at h2
    exact absurd (List.eq_nil_of_length_eq_zero h2) hne
  · rw [List.length_map] at h1 h2 h5
    exact ⟨g, 0, cap, cur, h1, hb, hg, h2, h3, by omega, by rw [List.drop_zero]; exact h5⟩
set_option maxRecDepth 100000 in
theorem cut_first (g off n cap : Nat) (h : 1 ≤ n) (w : World) : (Instr.slice 33 (.slice (some ⟨g, off, none⟩) n cap) (some (.int .i64 1)) none none).run Tryz.prog w = .ok (.slice (some ⟨g, if cap = 1 then off else off + 4, none⟩) (n - 1) (cap - 1)) w := by
  rw [run_slice_l w 33 (some ⟨g, off, none⟩) n cap Tryz.underlying33 .i64 1 (by omega) (by omega)]
  have hs : (sizeOf (Tryz.prog.elem 33)).run Tryz.prog w = .ok 4 w := by kernel_rfl
  rw [hs]
  by_cases hc : cap = 1
  · simp [Result.andThen, sliced, hc]
  · simp [Result.andThen, sliced, hc, Addr.add]
theorem cells_flat (x : Ins) (c : List Ins) : ((x :: c).map Ins.cells).flatten = x.cells ++ (c.map Ins.cells).flatten := rfl
theorem OffAt.cut {w : World} {B g off cap : Nat} {x : Ins} {c : List Ins} (h : OffAt w B (.slice (some ⟨g, off, none⟩) (c.length + 1) cap) (x :: c)) : OffAt w B (.slice (some ⟨g, if cap = 1 then off else off + 4, none⟩) c.length (cap - 1)) c := by
  obtain ⟨g', off', cap', cur, h1, hb, hg, h2, h3, h4, h5⟩ := h
  simp only [Value.slice.injEq, Option.some.injEq, Addr.mk.injEq, and_true] at h1
  obtain ⟨⟨rfl, rfl⟩, _, rfl⟩ := h1
  rw [List.length_cons] at h2
  refine ⟨g, _, cap - 1, cur, rfl, hb, hg, by omega, by omega, by split <;> omega, ?_⟩
  by_cases hc : cap = 1
  · have : c = [] := List.eq_nil_of_length_eq_zero (by omega)
    subst this
    simp
  · rw [if_neg hc]
    have h6 := congrArg (List.drop 4) h5
    rw [cells_flat, List.drop_take, List.drop_drop, List.length_cons] at h6
    rw [show (c.length + 1) * 4 - 4 = c.length * 4 by omega] at h6
    rw [h6]
    rfl
theorem OffAt.set {w : World} {B g off n cap : Nat} {x : Ins} {c : List Ins} (h : OffAt w B (.slice (some ⟨g, off, none⟩) n cap) (x :: c)) (o : Int) : OffAt (w.setCell ⟨g, off, none⟩ (.int .i64 o)) B (.slice (some ⟨g, off, none⟩) n cap) (⟨o, x.a, x.b⟩ :: c) := by
  obtain ⟨g', off', cap', cur, h1, hb, hg, h2, h3, h4, h5⟩ := h
  simp only [Value.slice.injEq, Option.some.injEq, Addr.mk.injEq, and_true] at h1
  obtain ⟨⟨rfl, rfl⟩, rfl, rfl⟩ := h1
  refine ⟨g, off, cap, cur.setIfInBounds off (.int .i64 o), rfl, hb, box_set hg off _, h2, h3, by simpa using h4, ?_⟩
  rw [Array.toList_setIfInBounds, List.drop_set, if_neg (by omega), Nat.sub_self, List.take_set, List.length_cons]
  rw [List.length_cons] at h5
  rw [h5, cells_flat, cells_flat]
  rfl
/-- append onto it -/
theorem OffAt.app {w : World} {ty : TypeId} {B g off n cap : Nat} {c d : List Ins} (h : OffAt w B (.slice (some ⟨g, off, none⟩) n cap) c) (a : Addr) (m cm : Nat) (hm : m = d.length) (hd : ∀ j u, (d.map Ins.cells).flatten[j]? = some u → w.cell? (a.add j) = some u) (hroom : c.length + d.length ≤ 1000) (hB : B ≤ w.heap.size) :
    ∃ v' w', (Builtin.append_ #[33, 33] ty #[.slice (some ⟨g, off, none⟩) n cap, .slice (some a) m cm]).run Tryz.prog w = .ok v' w' ∧ OffAt w' B v' (c ++ d) ∧ Below B w w' := by
  subst hm
  obtain ⟨g', off', cap', cur, h1, hb, hg, h2, h3, h4, h5⟩ := h
  simp only [Value.slice.injEq, Option.some.injEq, Addr.mk.injEq, and_true] at h1
  obtain ⟨⟨rfl, rfl⟩, rfl, rfl⟩ := h1
  have hone : ∀ u ∈ (d.map Ins.cells).flatten, u.oneCell' = true := fun u hu => by
    obtain ⟨r, hr, hu⟩ := List.mem_flatten.1 hu
    obtain ⟨x, _, rfl⟩ := List.mem_map.1 hr
    exact ins_cells_one x u hu
  have hcl : cur.toList.length = cur.size := Array.length_toList
  by_cases hr : c.length + d.length ≤ cap
  · have hfit : off + c.length * 4 + (d.map Ins.cells).flatten.length ≤ cur.size := by rw [ins_flat]; omega
    refine ⟨_, _, run_append_in ty_ins g off c.length cap cur hg a d.length cm _ (ins_flat d) hd hone hr hfit, ⟨g, off, cap, _, by rw [List.length_append], hb, setRow_heap w g cur _ _ _ hg, by rw [List.length_append]; omega, h3, ?_, ?_⟩, ?_⟩
    · simp only [List.size_toArray, List.length_append, List.length_take, List.length_drop, Array.length_toList]
      omega
    · have hlt : (cur.toList.take (off + c.length * 4)).length = off + c.length * 4 := by rw [List.length_take, hcl]; omega
      show ((cur.toList.take (off + c.length * 4) ++ (d.map Ins.cells).flatten ++ cur.toList.drop (off + c.length * 4 + (d.map Ins.cells).flatten.length)).drop off).take ((c ++ d).length * 4) = _
      rw [List.append_assoc, List.drop_append_of_le_length (by omega), List.length_append, List.map_append, List.flatten_append, ← h5, List.drop_take, show off + c.length * 4 - off = c.length * 4 by omega]
      have hl2 : ((cur.toList.drop off).take (c.length * 4)).length = c.length * 4 := by rw [List.length_take, List.length_drop, hcl]; omega
      rw [← List.append_assoc, List.take_append_of_le_length (by rw [List.length_append, hl2, ins_flat]; omega), List.take_of_length_le (by rw [List.length_append, hl2, ins_flat]; omega)]
    · exact ⟨rfl, rfl, rfl, by simp, fun k hk => setRow_other w g k _ (by omega)⟩
  · obtain ⟨i, z, hi, hz, hsize, hby, hzs⟩ := ty_ins.info
    have h9 : (c.length + d.length) * 48 ≤ 140737488355328 := by omega
    refine ⟨_, _, run_append_grow w 33 ty 38 i z ty_ins.slice hi hz ⟨g, off, none⟩ c.length cap _ (by rw [hsize]; exact ins_flat c) (fun j u hu => by rw [Addr.add_lit]; exact off_cell hg h5 hu) a d.length cm _ (by rw [hsize]; exact ins_flat d) hd (by omega) (by omega) (by rw [hby]; exact growslice_fits (by omega) h9), ?_, ?_⟩
    · have hge := grownCap_ge w (c.length + d.length) cap 38
      refine ⟨w.heap.size, 0, _, _, by rw [List.length_append], hB, heap_alloc_new _ _, by rw [List.length_append]; exact hge, grownCap_le_maxLen _ _ _ _ (by unfold maxLen; omega), ?_, ?_⟩
      · rw [Array.size_append, Array.size_append, size_zeroCells, hzs, List.size_toArray, List.size_toArray, ins_flat, ins_flat]
        omega
      · rw [List.drop_zero, Array.toList_append, Array.toList_append, List.length_append, List.map_append, List.flatten_append]
        show (((c.map Ins.cells).flatten ++ (d.map Ins.cells).flatten) ++ _).take _ = _
        rw [List.take_append_of_le_length (by rw [List.length_append, ins_flat, ins_flat]; omega), List.take_of_length_le (by rw [List.length_append, ins_flat, ins_flat]; omega)]
    · exact ((Below.refl B w).drew).alloc (by simpa using hB) _
/-- append onto it, as a step -/
theorem wpList_off {W : World} {ops : Array Oper} {rest : List Oper} {o : Oper} {act : Act} {Q : Exit → Act → World → Prop} (hgd : o.guard = none) (s x : Operand)
    (ho : o.op = .call { callee := .builtin .append, args := #[s, x], argTypes := #[33, 33] }) {B g off n cap : Nat} {c : List Ins} (hs : act.eval s = .slice (some ⟨g, off, none⟩) n cap) (h0 : OffAt W B (.slice (some ⟨g, off, none⟩) n cap) c)
    (d : List Ins) {A : Addr} {m cm : Nat} (hx : act.eval x = .slice (some A) m cm) (hm : m = d.length) (hd : ∀ j u, (d.map Ins.cells).flatten[j]? = some u → W.cell? (A.add j) = some u)
    (hroom : c.length + d.length ≤ 1000) (hbase : B ≤ W.heap.size)
    (h : ∀ a' cap' w', OffAt w' B (.slice a' (n + d.length) cap') (c ++ d) → Below B W w' → wpList Tryz.prog ops Q rest (act.put o.dst (.slice a' (n + d.length) cap')) w') : wpList Tryz.prog ops Q (o :: rest) act W := by
  refine wpList_plain hgd fun K hK => ?_
  obtain ⟨v', w', q1, q2, q3⟩ := h0.app (ty := o.type) A m cm hm hd hroom hbase
  have hn : c.length = n := by
    obtain ⟨_, _, _, _, h1, _⟩ := h0
    simp only [Value.slice.injEq] at h1
    exact h1.2.1.symm
  obtain ⟨a', cap', rfl⟩ : ∃ a' cap', v' = .slice a' (n + d.length) cap' := by
    obtain ⟨g', off', cap', _, h1, _⟩ := q2
    exact ⟨some ⟨g', off', none⟩, cap', by rw [h1, List.length_append, hn]⟩
  have hh := h a' cap' w' q2 q3
  unfold Oper.wp execOp
  simp only [ho, resolve, invoke, builtin, Sem.run_bind, Sem.run_pure, Result.andThen_ok, List.map_toArray, List.map_cons, List.map_nil, hs, hx, q1]
  exact hK _ _ hh
theorem calM_at {V : World} {bt bf : Nat} {S : ByteArray} {cv cv2 : Value} {c : List Ins} (hS : S.size ≤ 9223372036854775807) (ht : V.heap[bt]? = some (.cells #[.string ⟨#[]⟩, .string ⟨#[126]⟩, .string S, .string ⟨#[126]⟩] 51 (0, 0)))
    (hf : V.heap[bf]? = some (.cells #[.int .i64 0, .string ⟨#[]⟩, cv, .int .i64 1, .string ⟨#[]⟩, cv2] 35 (0, 0))) (h1 : CodeAt V cv (c.map toL)) (hl : c.length ≤ 100000) (h2 : CodeAt V cv2 [⟨66, 0, 0, []⟩, ⟨11, 0, 0, []⟩]) :
    ModAt V (.slice (some ⟨bt, 0, none⟩) 2 2) (.slice (some ⟨bf, 0, none⟩) 2 2) (.slice none 0 0) (.slice none 0 0) (.slice none 0 0) (-1) (.slice none 0 0) (calM S c) := by
  refine ⟨?_, ?_, list_nil V, list_nil V, list_nil V, rfl, list_nil V⟩
  · refine row_of_block ht _ _ _ rfl (by simp [calM]) (fun i x hi => ?_)
    have hi2 : [(⟨⟨#[]⟩, ⟨#[126]⟩⟩ : FT), ⟨S, ⟨#[126]⟩⟩][i]? = some x := hi
    match i, hi2 with
    | 0, hi2 => obtain rfl := Option.some.inj hi2; exact ⟨⟨rfl, (show 0 ≤ 9223372036854775807 by decide), (show 1 ≤ 9223372036854775807 by decide)⟩, rfl⟩
    | 1, hi2 => obtain rfl := Option.some.inj hi2; exact ⟨⟨rfl, hS, (show 1 ≤ 9223372036854775807 by decide)⟩, rfl⟩
    | i + 2, hi2 => simp at hi2
  · refine row_of_block hf _ _ _ rfl (by simp [calM]) (fun i x hi => ?_)
    have hi2 : [(⟨0, ⟨#[]⟩, c.map toL⟩ : FuncP), ⟨1, ⟨#[]⟩, [⟨66, 0, 0, []⟩, ⟨11, 0, 0, []⟩]⟩][i]? = some x := hi
    match i, hi2 with
    | 0, hi2 => obtain rfl := Option.some.inj hi2; exact ⟨⟨cv, rfl, h1, (show 0 ≤ 9223372036854775807 by decide), by show (c.map toL).length * 48 ≤ _; rw [List.length_map]; omega⟩, rfl⟩
    | 1, hi2 => obtain rfl := Option.some.inj hi2; exact ⟨⟨cv2, rfl, h2, (show 0 ≤ 9223372036854775807 by decide), (show 2 * 48 ≤ 140737488355328 by decide)⟩, rfl⟩
    | i + 2, hi2 => simp at hi2
end Go.Proofs.YthcjgdmmpopplaaGreatDoor.Vld
