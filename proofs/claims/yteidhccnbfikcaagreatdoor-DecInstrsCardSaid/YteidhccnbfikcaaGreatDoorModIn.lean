/-
  A module that came in, read as data; an instruction too. No condition beyond what each theorem names.
-/
import Derived.Test.YteidhccnbfikcaaGreatDoorModOpen
namespace Go.Proofs.YteidhccnbfikcaaGreatDoor.Mod
open Go.RowKit Go.Maps Go.Proofs.YteidhccnbfikcaaGreatDoor.Op Go.Proofs.YteidhccnbfikcaaGreatDoor.Pg Go.ChangeShapes Go.WideShapes Go.Deep
set_option linter.unusedVariables false
def wf64 (z : Int) : Prop := (Lit.int .i64 z).wf = true
structure InsOk (x : InsL) : Prop where
  op : wf64 x.op
  a : wf64 x.a
  b : wf64 x.b
  len : x.labels.length * 8 ≤ 140737488351232
  labels : ∀ z ∈ x.labels, wf64 z
structure FuncOk (x : FuncP) : Prop where
  ty : wf64 x.ty
  len : x.code.length * 48 ≤ 140737488351232
  code : ∀ i ∈ x.code, InsOk i
  locals : x.locals.size ≤ 140737488351232
structure ModOk (m : ModP) : Prop where
  types : m.types.length * 32 ≤ 140737488351232
  typesS : ∀ x ∈ m.types, x.params.size ≤ 140737488351232 ∧ x.results.size ≤ 140737488351232
  funcsN : m.funcs.length * 48 ≤ 140737488351232
  funcs : ∀ x ∈ m.funcs, FuncOk x
  memN : m.memory.length * 16 ≤ 140737488351232
  mem : ∀ x ∈ m.memory, wf64 x.least ∧ wf64 x.most
  globN : m.globals.length * 24 ≤ 140737488351232
  glob : ∀ x ∈ m.globals, wf64 x.ty ∧ wf64 x.init
  expN : m.exports.length * 32 ≤ 140737488351232
  exp : ∀ x ∈ m.exports, wf64 x.kind ∧ wf64 x.index ∧ x.name.size ≤ 140737488351232
  start : wf64 m.start
  dataN : m.data.length * 24 ≤ 140737488351232
  data : ∀ x ∈ m.data, wf64 x.offset ∧ x.bytes.size ≤ 140737488351232
section
variable {H : Type} {enc : TypeId × Value → H} {w : World} {base : Nat} {spare : Nat → Bool} {held : Bool}
set_option maxRecDepth 100000 in
theorem fields_open {t : TypeId} {fs : Array Field} {fuel : Nat} {cs : List Value} {x : DataW H × List MemPlace} (ht : Tryz.prog.underlying t = some (.struct fs)) (hone : oneCellFields Tryz.prog fs = true) (hc : Tryz.prog.cellsOf t = fs.size)
    (h : DataW.trod enc Tryz.prog w base spare held fuel t cs = some x) (hw : Light x.1 t) :
    cs.length = fs.size ∧ ∃ n, ∀ (i : Nat) (f : Field), fs[i]? = some f → ∃ c y, cs[i]? = some c ∧ DataW.trod enc Tryz.prog w base spare held n f.type [c] = some y ∧ Light y.1 f.type := by
  obtain ⟨xs, n, _, rfl, hl, hxl, hf⟩ := DataW.trod_struct ht h
  rw [hc] at hl
  refine ⟨hl, n, fun i f hi => ?_⟩
  obtain ⟨o, k⟩ := hone_of hone i f hi
  have hlt : i < fs.size := (Array.getElem?_eq_some_iff.1 hi).1
  have h1 := hf i f hi
  rw [o, k, List.drop_eq_getElem_cons (by omega : i < cs.length)] at h1
  have hy : xs[i]? = some xs[i] := List.getElem?_eq_getElem (by omega)
  refine ⟨cs[i], xs[i], List.getElem?_eq_getElem (by omega), ?_, fun m hm => hw m ?_⟩
  · rw [← hy, ← h1]
    rfl
  · show m ∈ DataW.weights Tryz.prog t (.agg (xs.map (·.1)))
    rw [DataW.weights, ht]
    exact DataW.weights_mem_each (j := i) (t := f.type) (d := xs[i].1) (by rw [List.getElem?_map, Array.getElem?_toList, hi]; rfl) (by rw [List.getElem?_map, hy]; rfl) m hm
theorem slice_cell {t e : TypeId} {fuel : Nat} {c : Value} {x : DataW H × List MemPlace} (ht : Tryz.prog.underlying t = some (.slice e)) (h : DataW.trod enc Tryz.prog w base spare held fuel t [c] = some x) : ∃ la len cap, c = .slice la len cap := by
  rcases open_slice ht h with ⟨hcs, _⟩ | ⟨a, len, cap, m, n, D, Pl, hcs, _⟩
  · exact ⟨none, 0, 0, by simpa using hcs⟩
  · exact ⟨some a, len, cap, by simpa using hcs⟩
set_option maxRecDepth 100000 in
theorem list_open {α : Type} {t e : TypeId} {size : Nat} {R : World → List Value → α → Prop} {G : α → Prop} (ht : Tryz.prog.underlying t = some (.slice e)) (hc : Tryz.prog.cellsOf e = size) (hs : 0 < size)
    (hrow : ∀ n r y, DataW.trod enc Tryz.prog w base spare held n e r = some y → Light y.1 e → ∃ x : α, R w r x ∧ G x)
    {fuel : Nat} {c : Value} {x : DataW H × List MemPlace} (h : DataW.trod enc Tryz.prog w base spare held fuel t [c] = some x) (hw : Light x.1 t) :
    ∃ l : List α, ListAt size R w c l ∧ l.length * Tryz.prog.bytesOf e ≤ reachBytes ∧ ∀ x ∈ l, G x := by
  obtain ⟨la, len, cap, rfl⟩ := slice_cell ht h
  obtain ⟨rows, hr, hl, hcap, hb, hp⟩ := rows_open ht hc hs h hw
  obtain ⟨l, hl2, hq⟩ := choose_rows (Q := fun i (x : α) => (∀ r, rows[i]? = some r → R w r x) ∧ G x) len (fun i hi => by
    have hri := List.getElem?_eq_getElem (show i < rows.length by omega)
    obtain ⟨n, y, hy, hly⟩ := hp i _ hri
    obtain ⟨x, h1, h2⟩ := hrow n _ y hy hly
    exact ⟨x, fun r hr => by rw [hri] at hr; rw [← Option.some.inj hr]; exact h1, h2⟩)
  refine ⟨l, ⟨rows, hr, by omega, fun i r x hri hxi => (hq i x hxi).1 r hri⟩, by rw [hl2]; exact hb, fun x hx => ?_⟩
  obtain ⟨i, hi⟩ := List.getElem?_of_mem hx
  exact (hq i x hi).2
theorem str_light {t : TypeId} (ht : Tryz.prog.underlying t = some .string) {n : Nat} {c : Value} {y : DataW H × List MemPlace} (h : DataW.trod enc Tryz.prog w base spare held n t [c] = some y) (hw : Light y.1 t) : ∃ s : ByteArray, [c] = [.string s] ∧ True ∧ s.size ≤ 140737488351232 := by
  obtain ⟨s, e, rfl, _⟩ := DataW.trod_string ht h
  refine ⟨s, e, trivial, ?_⟩
  have h9 := hw s.data.toList.length (by rw [DataW.weights]; exact List.mem_singleton.2 rfl)
  unfold reachBytes at h9
  exact h9
theorem ft_open {n : Nat} {r : List Value} {y : DataW H × List MemPlace} (h : DataW.trod enc Tryz.prog w base spare held n 73 r = some y) (hw : Light y.1 73) : ∃ x : FT, isFT w r x ∧ (x.params.size ≤ 140737488351232 ∧ x.results.size ≤ 140737488351232) := by
  obtain ⟨hl, n', hF⟩ := fields_open Tryz.underlying73 (by kernel_rfl) (by kernel_rfl) h hw
  obtain ⟨c0, c1, rfl⟩ := two hl
  obtain ⟨d0, y0, g0, t0, l0⟩ := hF 0 _ rfl
  obtain rfl : c0 = d0 := Option.some.inj g0
  obtain ⟨d1, y1, g1, t1, l1⟩ := hF 1 _ rfl
  obtain rfl : c1 = d1 := Option.some.inj g1
  obtain ⟨s0, e0, _, b0⟩ := str_light (t := 9) Tryz.underlying9 t0 l0
  obtain ⟨s1, e1, _, b1⟩ := str_light (t := 9) Tryz.underlying9 t1 l1
  obtain rfl : c0 = .string s0 := by simpa using e0
  obtain rfl : c1 = .string s1 := by simpa using e1
  exact ⟨⟨s0, s1⟩, ⟨rfl, Nat.le_trans b0 (by decide), Nat.le_trans b1 (by decide)⟩, b0, b1⟩
theorem mem_open {n : Nat} {r : List Value} {y : DataW H × List MemPlace} (h : DataW.trod enc Tryz.prog w base spare held n 77 r = some y) (hw : Light y.1 77) : ∃ x : MemP, isMem w r x ∧ (wf64 x.least ∧ wf64 x.most) := by
  obtain ⟨hl, n', hF⟩ := fields_open Tryz.underlying77 (by kernel_rfl) (by kernel_rfl) h hw
  obtain ⟨c0, c1, rfl⟩ := two hl
  obtain ⟨d0, y0, g0, t0, l0⟩ := hF 0 _ rfl
  obtain rfl : c0 = d0 := Option.some.inj g0
  obtain ⟨d1, y1, g1, t1, l1⟩ := hF 1 _ rfl
  obtain rfl : c1 = d1 := Option.some.inj g1
  obtain ⟨z0, e0, _, b0⟩ := DataW.trod_int (t := 3) Tryz.underlying3 t0
  obtain ⟨z1, e1, _, b1⟩ := DataW.trod_int (t := 3) Tryz.underlying3 t1
  obtain rfl : c0 = .int .i64 z0 := by simpa using e0
  obtain rfl : c1 = .int .i64 z1 := by simpa using e1
  exact ⟨⟨z0, z1⟩, rfl, b0, b1⟩
theorem glob_open {n : Nat} {r : List Value} {y : DataW H × List MemPlace} (h : DataW.trod enc Tryz.prog w base spare held n 79 r = some y) (hw : Light y.1 79) : ∃ x : GlobP, isGlob w r x ∧ (wf64 x.ty ∧ wf64 x.init) := by
  obtain ⟨hl, n', hF⟩ := fields_open Tryz.underlying79 (by kernel_rfl) (by kernel_rfl) h hw
  obtain ⟨c0, c1, c2, rfl⟩ := three hl
  obtain ⟨d0, y0, g0, t0, l0⟩ := hF 0 _ rfl
  obtain rfl : c0 = d0 := Option.some.inj g0
  obtain ⟨d1, y1, g1, t1, l1⟩ := hF 1 _ rfl
  obtain rfl : c1 = d1 := Option.some.inj g1
  obtain ⟨d2, y2, g2, t2, l2⟩ := hF 2 _ rfl
  obtain rfl : c2 = d2 := Option.some.inj g2
  obtain ⟨z0, e0, _, b0⟩ := DataW.trod_int (t := 3) Tryz.underlying3 t0
  obtain ⟨z1, e1, _⟩ := DataW.trod_bool (t := 4) Tryz.underlying4 t1
  obtain ⟨z2, e2, _, b2⟩ := DataW.trod_int (t := 2) Tryz.underlying2 t2
  obtain rfl : c0 = .int .i64 z0 := by simpa using e0
  obtain rfl : c1 = .bool z1 := by simpa using e1
  obtain rfl : c2 = .int .i64 z2 := by simpa using e2
  exact ⟨⟨z0, z1, z2⟩, rfl, b0, b2⟩
theorem exp_open {n : Nat} {r : List Value} {y : DataW H × List MemPlace} (h : DataW.trod enc Tryz.prog w base spare held n 81 r = some y) (hw : Light y.1 81) : ∃ x : ExpP, isExp w r x ∧ (wf64 x.kind ∧ wf64 x.index ∧ x.name.size ≤ 140737488351232) := by
  obtain ⟨hl, n', hF⟩ := fields_open Tryz.underlying81 (by kernel_rfl) (by kernel_rfl) h hw
  obtain ⟨c0, c1, c2, rfl⟩ := three hl
  obtain ⟨d0, y0, g0, t0, l0⟩ := hF 0 _ rfl
  obtain rfl : c0 = d0 := Option.some.inj g0
  obtain ⟨d1, y1, g1, t1, l1⟩ := hF 1 _ rfl
  obtain rfl : c1 = d1 := Option.some.inj g1
  obtain ⟨d2, y2, g2, t2, l2⟩ := hF 2 _ rfl
  obtain rfl : c2 = d2 := Option.some.inj g2
  obtain ⟨s0, e0, _, b0⟩ := str_light (t := 9) Tryz.underlying9 t0 l0
  obtain ⟨z1, e1, _, b1⟩ := DataW.trod_int (t := 3) Tryz.underlying3 t1
  obtain ⟨z2, e2, _, b2⟩ := DataW.trod_int (t := 3) Tryz.underlying3 t2
  obtain rfl : c0 = .string s0 := by simpa using e0
  obtain rfl : c1 = .int .i64 z1 := by simpa using e1
  obtain rfl : c2 = .int .i64 z2 := by simpa using e2
  exact ⟨⟨s0, z1, z2⟩, ⟨rfl, Nat.le_trans b0 (by decide)⟩, b1, b2, b0⟩
theorem data_open {n : Nat} {r : List Value} {y : DataW H × List MemPlace} (h : DataW.trod enc Tryz.prog w base spare held n 83 r = some y) (hw : Light y.1 83) : ∃ x : DataP, isData w r x ∧ (wf64 x.offset ∧ x.bytes.size ≤ 140737488351232) := by
  obtain ⟨hl, n', hF⟩ := fields_open Tryz.underlying83 (by kernel_rfl) (by kernel_rfl) h hw
  obtain ⟨c0, c1, rfl⟩ := two hl
  obtain ⟨d0, y0, g0, t0, l0⟩ := hF 0 _ rfl
  obtain rfl : c0 = d0 := Option.some.inj g0
  obtain ⟨d1, y1, g1, t1, l1⟩ := hF 1 _ rfl
  obtain rfl : c1 = d1 := Option.some.inj g1
  obtain ⟨z0, e0, _, b0⟩ := DataW.trod_int (t := 3) Tryz.underlying3 t0
  obtain ⟨s1, e1, _, b1⟩ := str_light (t := 9) Tryz.underlying9 t1 l1
  obtain rfl : c0 = .int .i64 z0 := by simpa using e0
  obtain rfl : c1 = .string s1 := by simpa using e1
  exact ⟨⟨z0, s1⟩, ⟨rfl, Nat.le_trans b1 (by decide)⟩, b0, b1⟩
/-- labels -/
theorem labels_open {t : TypeId} (ht : Tryz.prog.underlying t = some (.slice 3)) {fuel : Nat} {c : Value} {x : DataW H × List MemPlace} (h : DataW.trod enc Tryz.prog w base spare held fuel t [c] = some x) (hw : Light x.1 t) :
    ∃ zs, IntsAt w c zs ∧ zs.length * 8 ≤ 140737488351232 ∧ ∀ z ∈ zs, wf64 z := by
  obtain ⟨l, ⟨rows, ⟨la, cp, rfl, hle, hq⟩, hl, hx⟩, hb, hg⟩ := list_open (size := 1) (α := Int) (R := fun _ r z => r = [.int .i64 z]) (G := wf64) ht (by kernel_rfl) (by decide) (fun n r y hy _ => by
    obtain ⟨z, e, _, b⟩ := DataW.trod_int Tryz.underlying3 hy
    exact ⟨z, e, b⟩) h hw
  rw [show Tryz.prog.bytesOf 3 = 8 by kernel_rfl] at hb
  refine ⟨l, ?_, by unfold reachBytes at hb; exact hb, hg⟩
  cases l with
  | nil => exact .inr (.inr ⟨la, cp, by rw [hl]; rfl, rfl⟩)
  | cons z0 zs =>
    have h0 : 0 < rows.length := by rw [hl]; simp
    obtain ⟨_, b, off, rfl, hbl, _⟩ := hq 0 _ (List.getElem?_eq_getElem h0)
    refine .inr (.inl ⟨b, off, cp, by rw [hl], hbl, fun j z hz => ?_⟩)
    have hj : j < rows.length := by rw [hl]; exact (List.getElem?_eq_some_iff.1 hz).1
    have hrj := List.getElem?_eq_getElem hj
    obtain ⟨_, b', off', e', _, hc⟩ := hq j _ hrj
    obtain ⟨rfl, rfl⟩ : b = b' ∧ off = off' := by simpa using e'
    have hrow := hx j _ z hrj hz
    rw [hrow] at hc
    have := hc 0 _ rfl
    rw [Nat.mul_one, Nat.add_zero] at this
    exact this
set_option maxRecDepth 100000 in
theorem ins_open {n : Nat} {r : List Value} {y : DataW H × List MemPlace} (h : DataW.trod enc Tryz.prog w base spare held n 33 r = some y) (hw : Light y.1 33) : ∃ x : InsL, isIns w r x ∧ InsOk x := by
  obtain ⟨hl, n', hF⟩ := fields_open Tryz.underlying33 (by kernel_rfl) (by kernel_rfl) h hw
  obtain ⟨c0, c1, c2, c3, rfl⟩ := four hl
  obtain ⟨d0, y0, g0, t0, l0⟩ := hF 0 _ rfl
  obtain rfl : c0 = d0 := Option.some.inj g0
  obtain ⟨d1, y1, g1, t1, l1⟩ := hF 1 _ rfl
  obtain rfl : c1 = d1 := Option.some.inj g1
  obtain ⟨d2, y2, g2, t2, l2⟩ := hF 2 _ rfl
  obtain rfl : c2 = d2 := Option.some.inj g2
  obtain ⟨d3, y3, g3, t3, l3⟩ := hF 3 _ rfl
  obtain rfl : c3 = d3 := Option.some.inj g3
  obtain ⟨z0, e0, _, b0⟩ := DataW.trod_int (t := 3) Tryz.underlying3 t0
  obtain ⟨z1, e1, _, b1⟩ := DataW.trod_int (t := 2) Tryz.underlying2 t1
  obtain ⟨z2, e2, _, b2⟩ := DataW.trod_int (t := 2) Tryz.underlying2 t2
  obtain ⟨zs, hz, hzl, hzw⟩ := labels_open (t := 31) Tryz.underlying31 t3 l3
  obtain rfl : c0 = .int .i64 z0 := by simpa using e0
  obtain rfl : c1 = .int .i64 z1 := by simpa using e1
  obtain rfl : c2 = .int .i64 z2 := by simpa using e2
  exact ⟨⟨z0, z1, z2, zs⟩, ⟨c3, rfl, hz, b0⟩, b0, b1, b2, hzl, hzw⟩
set_option maxRecDepth 100000 in
theorem func_open {n : Nat} {r : List Value} {y : DataW H × List MemPlace} (h : DataW.trod enc Tryz.prog w base spare held n 75 r = some y) (hw : Light y.1 75) : ∃ x : FuncP, isFunc w r x ∧ FuncOk x := by
  obtain ⟨hl, n', hF⟩ := fields_open Tryz.underlying75 (by kernel_rfl) (by kernel_rfl) h hw
  obtain ⟨c0, c1, c2, rfl⟩ := three hl
  obtain ⟨d0, y0, g0, t0, l0⟩ := hF 0 _ rfl
  obtain rfl : c0 = d0 := Option.some.inj g0
  obtain ⟨d1, y1, g1, t1, l1⟩ := hF 1 _ rfl
  obtain rfl : c1 = d1 := Option.some.inj g1
  obtain ⟨d2, y2, g2, t2, l2⟩ := hF 2 _ rfl
  obtain rfl : c2 = d2 := Option.some.inj g2
  obtain ⟨z0, e0, _, b0⟩ := DataW.trod_int (t := 3) Tryz.underlying3 t0
  obtain ⟨s1, e1, _, b1⟩ := str_light (t := 9) Tryz.underlying9 t1 l1
  obtain ⟨code, hc, hb, hg⟩ := list_open (size := 4) (R := isIns) (G := InsOk) Tryz.underlying61 (by kernel_rfl) (by decide) (fun n r y hy hly => ins_open hy hly) t2 l2
  obtain rfl : c0 = .int .i64 z0 := by simpa using e0
  obtain rfl : c1 = .string s1 := by simpa using e1
  rw [show Tryz.prog.bytesOf 33 = 48 by kernel_rfl] at hb
  unfold reachBytes at hb
  exact ⟨⟨z0, s1, code⟩, ⟨c2, rfl, hc, Nat.le_trans b1 (by decide), by show code.length * 48 ≤ _; omega⟩, b0, hb, hg, b1⟩
theorem seven {cs : List Value} (h : cs.length = 7) : ∃ c0 c1 c2 c3 c4 c5 c6, cs = [c0, c1, c2, c3, c4, c5, c6] := by
  match cs, h with
  | [c0, c1, c2, c3, c4, c5, c6], _ => exact ⟨c0, c1, c2, c3, c4, c5, c6, rfl⟩
set_option maxRecDepth 100000 in
theorem mod_open {n : Nat} {r : List Value} {y : DataW H × List MemPlace} (h : DataW.trod enc Tryz.prog w base spare held n 29 r = some y) (hw : Light y.1 29) :
    ∃ t f me g e st d m, r = [t, f, me, g, e, .int .i64 st, d] ∧ ModAt w t f me g e st d m ∧ ModOk m := by
  obtain ⟨hl, n', hF⟩ := fields_open Tryz.underlying29 (by kernel_rfl) (by kernel_rfl) h hw
  obtain ⟨c0, c1, c2, c3, c4, c5, c6, rfl⟩ := seven hl
  obtain ⟨d0, y0, g0, t0, l0⟩ := hF 0 _ rfl
  obtain rfl : c0 = d0 := Option.some.inj g0
  obtain ⟨d1, y1, g1, t1, l1⟩ := hF 1 _ rfl
  obtain rfl : c1 = d1 := Option.some.inj g1
  obtain ⟨d2, y2, g2, t2, l2⟩ := hF 2 _ rfl
  obtain rfl : c2 = d2 := Option.some.inj g2
  obtain ⟨d3, y3, g3, t3, l3⟩ := hF 3 _ rfl
  obtain rfl : c3 = d3 := Option.some.inj g3
  obtain ⟨d4, y4, g4, t4, l4⟩ := hF 4 _ rfl
  obtain rfl : c4 = d4 := Option.some.inj g4
  obtain ⟨d5, y5, g5, t5, l5⟩ := hF 5 _ rfl
  obtain rfl : c5 = d5 := Option.some.inj g5
  obtain ⟨d6, y6, g6, t6, l6⟩ := hF 6 _ rfl
  obtain rfl : c6 = d6 := Option.some.inj g6
  obtain ⟨z5, e5, _, b5⟩ := DataW.trod_int (t := 3) Tryz.underlying3 t5
  obtain rfl : c5 = .int .i64 z5 := by simpa using e5
  obtain ⟨m0, q0, n0, k0⟩ := list_open (size := 2) (R := isFT) (G := fun x => x.params.size ≤ 140737488351232 ∧ x.results.size ≤ 140737488351232) Tryz.underlying22 (by kernel_rfl) (by decide) (fun n r y hy hly => ft_open hy hly) t0 l0
  obtain ⟨m1, q1, n1, k1⟩ := list_open (size := 3) (R := isFunc) (G := FuncOk) Tryz.underlying23 (by kernel_rfl) (by decide) (fun n r y hy hly => func_open hy hly) t1 l1
  obtain ⟨m2, q2, n2, k2⟩ := list_open (size := 2) (R := isMem) (G := fun x => wf64 x.least ∧ wf64 x.most) Tryz.underlying24 (by kernel_rfl) (by decide) (fun n r y hy hly => mem_open hy hly) t2 l2
  obtain ⟨m3, q3, n3, k3⟩ := list_open (size := 3) (R := isGlob) (G := fun x => wf64 x.ty ∧ wf64 x.init) Tryz.underlying25 (by kernel_rfl) (by decide) (fun n r y hy hly => glob_open hy hly) t3 l3
  obtain ⟨m4, q4, n4, k4⟩ := list_open (size := 3) (R := isExp) (G := fun x => wf64 x.kind ∧ wf64 x.index ∧ x.name.size ≤ 140737488351232) Tryz.underlying26 (by kernel_rfl) (by decide) (fun n r y hy hly => exp_open hy hly) t4 l4
  obtain ⟨m6, q6, n6, k6⟩ := list_open (size := 2) (R := isData) (G := fun x => wf64 x.offset ∧ x.bytes.size ≤ 140737488351232) Tryz.underlying27 (by kernel_rfl) (by decide) (fun n r y hy hly => data_open hy hly) t6 l6
  rw [show Tryz.prog.bytesOf 73 = 32 by kernel_rfl] at n0
  rw [show Tryz.prog.bytesOf 75 = 48 by kernel_rfl] at n1
  rw [show Tryz.prog.bytesOf 77 = 16 by kernel_rfl] at n2
  rw [show Tryz.prog.bytesOf 79 = 24 by kernel_rfl] at n3
  rw [show Tryz.prog.bytesOf 81 = 32 by kernel_rfl] at n4
  rw [show Tryz.prog.bytesOf 83 = 24 by kernel_rfl] at n6
  unfold reachBytes at n0 n1 n2 n3 n4 n6
  exact ⟨c0, c1, c2, c3, c4, z5, c6, ⟨m0, m1, m2, m3, m4, z5, m6⟩, rfl, ⟨q0, q1, q2, q3, q4, rfl, q6⟩, ⟨n0, k0, n1, k1, n2, k2, n3, k3, n4, k4, b5, n6, k6⟩⟩
set_option maxRecDepth 100000 in
/-- a module that is a param -/
theorem mod_param {rc : Reach} {b0 : Nat} {v : Value} {d : DataW H} {p : List MemPlace} (hv : Value.okWide Tryz.prog w rc b0 29 v) (h : DataW.Trod enc Tryz.prog w base spare held 29 v d p) (hw : Light d 29) :
    ∃ t f me g e st d m, v = modV t f me g e st d ∧ ModAt w t f me g e st d m ∧ ModOk m := by
  obtain ⟨cs, rfl, hsz⟩ := okWide_struct Tryz.underlying29 hv
  obtain ⟨fuel, hf⟩ := h
  obtain ⟨t, f, me, g, e, st, dd, m, hr, hA, hO⟩ := mod_open hf hw
  refine ⟨t, f, me, g, e, st, dd, m, ?_, hA, hO⟩
  unfold modV
  congr 1
  apply Array.ext'
  exact hr
set_option maxRecDepth 100000 in
theorem ins_param {rc : Reach} {b0 : Nat} {v : Value} {d : DataW H} {p : List MemPlace} (hv : Value.okWide Tryz.prog w rc b0 33 v) (h : DataW.Trod enc Tryz.prog w base spare held 33 v d p) (hw : Light d 33) :
    ∃ lv x, v = .agg #[.int .i64 x.op, .int .i64 x.a, .int .i64 x.b, lv] ∧ IntsAt w lv x.labels ∧ InsOk x := by
  obtain ⟨cs, rfl, hsz⟩ := okWide_struct Tryz.underlying33 hv
  obtain ⟨fuel, hf⟩ := h
  obtain ⟨x, ⟨lv, hr, hi, _⟩, hO⟩ := ins_open hf hw
  refine ⟨lv, x, ?_, hi, hO⟩
  congr 1
  apply Array.ext'
  exact hr
end
end Go.Proofs.YteidhccnbfikcaaGreatDoor.Mod
