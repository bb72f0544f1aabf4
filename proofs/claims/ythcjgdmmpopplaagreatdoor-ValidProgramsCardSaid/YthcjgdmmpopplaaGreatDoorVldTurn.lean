/-
  A made program with its end turned: right, as deep, valid or not. Plain.
-/
import Derived.Test.YthcjgdmmpopplaaGreatDoorVldEx
import Derived.Test.YthcjgdmmpopplaaGreatDoorModBlocksP
namespace Go.Proofs.YthcjgdmmpopplaaGreatDoor.Vld
open Go.RowKit Go.Maps Go.Proofs.YthcjgdmmpopplaaGreatDoor.Op Go.Proofs.YthcjgdmmpopplaaGreatDoor.Mod Go.Proofs.YthcjgdmmpopplaaGreatDoor.Pg
set_option linter.unusedVariables false
theorem struct_run : ∀ (os st : List Int), structB st (os ++ [11]) = true → runS st os = some []
  | [], st, h => by
    by_cases hs : st = []
    · rw [hs]; rfl
    · have h2 : (if (11 : Int) = 11 ∧ st = [] then ([] : List Int).isEmpty else match stepS st 11 with | none => false | some s => structB s []) = true := h
      rw [if_neg (fun h => hs h.2)] at h2
      cases hq : stepS st 11 with
      | none => rw [hq] at h2; cases h2
      | some s => rw [hq] at h2; cases h2
  | o :: os, st, h => by
    have h2 : (if o = 11 ∧ st = [] then (os ++ [11]).isEmpty else match stepS st o with | none => false | some s => structB s (os ++ [11])) = true := h
    by_cases hs : o = 11 ∧ st = []
    · rw [if_pos hs] at h2
      simp at h2
    · rw [if_neg hs] at h2
      show (stepS st o).bind (fun s => runS s os) = some []
      cases hq : stepS st o with
      | none => rw [hq] at h2; cases h2
      | some s => rw [hq] at h2; exact struct_run os s h2
def moreM : List Ins := [⟨65, 0, 0⟩, ⟨11, 0, 0⟩]
def lessM : List Ins := [⟨26, 0, 0⟩, ⟨11, 0, 0⟩]
def deadM : List Ins := [⟨15, 0, 0⟩, ⟨26, 0, 0⟩, ⟨106, 0, 0⟩, ⟨26, 0, 0⟩, ⟨11, 0, 0⟩]
theorem turn_right {l : List Step} {c : List Ins} (h : (madeP l).code = c ++ [⟨11, 0, 0⟩]) (mid : List Ins) (hm : runS [] (mid.map Ins.op) = some []) (ho : (mid.all okI) = true) :
    rightM { modOf (madeP l).code with funcs := [fnOf ((c ++ (mid ++ [(⟨11, 0, 0⟩ : Ins)])).map tL)] } = true := by
  have h1 := made_struct l
  rw [h, List.map_append] at h1
  have h2 := struct_run (c.map Ins.op) [] h1
  have h3 : structB [] ((c ++ (mid ++ [(⟨11, 0, 0⟩ : Ins)])).map Ins.op) = true := by
    rw [← List.append_assoc, List.map_append]
    exact whole_yes (c := (c ++ mid).map Ins.op) (by rw [List.map_append, runS_cat h2]; exact hm)
  have h4 := made_oks l
  refine mod_right (c ++ (mid ++ [(⟨11, 0, 0⟩ : Ins)])) h3 (fun x hx => ?_)
  rcases List.mem_append.1 hx with hx | hx
  · exact h4 x (by rw [h]; exact List.mem_append_left _ hx)
  · rcases List.mem_append.1 hx with hx | hx
    · exact List.all_eq_true.1 ho x hx
    · exact h4 x (by rw [h]; exact List.mem_append_right _ hx)
theorem turn_laws (l : List Step) : ∃ c, (madeP l).code = c ++ [⟨11, 0, 0⟩] ∧ funcE (modOf (madeP l).code) (fnOf ((c ++ moreM).map tL)) = 4 ∧ funcE (modOf (madeP l).code) (fnOf ((c ++ lessM).map tL)) = 4 ∧ funcE (modOf (madeP l).code) (fnOf ((c ++ deadM).map tL)) = 0 := by
  obtain ⟨_, c, hc, v1, v2, v3⟩ := made_valid (m := modOf (madeP l).code) (lo := ⟨#[127, 126]⟩) rfl rfl rfl rfl (by simp [modOf]) l
  have n : ∀ (e : List Ins), ((e.map tL).map InsL.op).countP isOpen = 0 → nestP (fnOf ((c ++ e).map tL)).code ≤ 256 := fun e he => by
    have := nest_turn hc he
    show nestP ((c ++ e).map tL) ≤ 256
    rw [List.map_append]
    omega
  refine ⟨c, hc, ?_, ?_, ?_⟩
  · refine funcE_not (turn_right hc [⟨65, 0, 0⟩] rfl (by kernel_rfl)) (n moreM (by decide)) ?_
    rw [List.map_append]
    exact v1
  · refine funcE_not (turn_right hc [⟨26, 0, 0⟩] rfl (by kernel_rfl)) (n lessM (by decide)) ?_
    rw [List.map_append]
    exact v2
  · refine funcE_valid (turn_right hc [⟨15, 0, 0⟩, ⟨26, 0, 0⟩, ⟨106, 0, 0⟩, ⟨26, 0, 0⟩] rfl (by kernel_rfl)) (n deadM (by decide)) ?_
    rw [List.map_append]
    exact v3
/-- code's first rows -/
theorem RowAt.take {w : World} {size : Nat} {a : Option Addr} {n cap : Nat} {rows : List (List Value)} (h : RowAt w size (.slice a n cap) rows) (m c2 : Nat) (hm : m ≤ rows.length) : RowAt w size (.slice a m c2) (rows.take m) := by
  obtain ⟨la, c, hv, hle, hr⟩ := h
  obtain ⟨rfl, rfl, rfl⟩ := Value.slice.inj hv
  refine ⟨a, c2, by rw [List.length_take, Nat.min_eq_left hm], by rw [List.length_take]; omega, fun i r hi => ?_⟩
  rw [List.getElem?_take] at hi
  split at hi
  · exact hr i r hi
  · cases hi
/-- a copy of code's first instructions, onto nil -/
theorem wpList_part {W : World} {ops : Array Oper} {rest : List Oper} {o : Oper} {act : Act} {Q : Exit → Act → World → Prop} (hgd : o.guard = none) (s x : Operand)
    (ho : o.op = .call { callee := .builtin .append, args := #[s, x], argTypes := #[33, 33] }) {B : Nat} {a : Option Addr} {n cap cap2 : Nat} {c d : List Ins} (hs : act.eval s = .slice none 0 0) (hx : act.eval x = .slice a c.length cap2) (hown : Cod W B (.slice a n cap) (c ++ d)) (hroom : c.length + d.length ≤ 1000000000)
    (h : ∀ a' cap w', Cod w' W.heap.size (.slice a' c.length cap) c → Below W.heap.size W w' → wpList Tryz.prog ops Q rest (act.put o.dst (.slice a' c.length cap)) w') : wpList Tryz.prog ops Q (o :: rest) act W := by
  have hrow := OwnAt.row hown (by decide) (by rw [List.length_map, List.length_append]; omega)
  have hr2 := RowAt.take hrow c.length cap2 (by rw [List.length_map, List.length_append]; omega)
  rw [← List.map_take, List.take_left] at hr2
  refine wpList_app ty_ins hgd s x ho hs (own_nil W W.heap.size _ _) hx hr2 (fun r hr u hu => by obtain ⟨y, _, rfl⟩ := List.mem_map.1 hr; exact ins_cells_one y u hu) ⟨by rw [List.length_map]; simp; omega, by decide⟩ (Nat.le_refl _) (fun a' cap w' q1 q2 q3 => ?_)
  rw [List.length_map, List.nil_append] at q1
  rw [List.length_map]
  simp only [List.length_nil, Nat.zero_add] at q1 ⊢
  exact h a' cap w' q1 (q2.below (fun j hj => by simp [Value.ownBlock] at hj) (Nat.le_refl _))
set_option maxRecDepth 100000 in
theorem cut_code (a : Option Addr) (n cap m : Nat) (h : m ≤ cap) (w : World) : (Instr.slice 33 (.slice a n cap) none (some (.int .i64 m)) none).run Tryz.prog w = .ok (.slice a m cap) w := by
  rw [run_slice_h w 33 a n cap Tryz.underlying33 .i64 (m : Int) (by omega) (by omega)]
  have hs : (sizeOf (Tryz.prog.elem 33)).run Tryz.prog w = .ok 4 w := by kernel_rfl
  rw [hs]
  cases a <;> simp [Result.andThen, sliced, Addr.add]
theorem turn_world {WA wa1 wa2 : World} {fb : Array Value} {blk : Obj} {a1 a2 : Option Addr} {p1 p2 n1 n2 : Nat} {c d : List Ins} (o1 : Cod wa1 (WA.alloc (.cells fb 35)).heap.size (.slice a1 n1 p1) c)
    (k1 : Below (WA.alloc (.cells fb 35)).heap.size (WA.alloc (.cells fb 35)) wa1) (o2 : Cod wa2 (WA.alloc (.cells fb 35)).heap.size (.slice a2 n2 p2) d) (k2 : Keeps (fun j => (Value.slice a1 n1 p1).ownBlock = some j) (wa1.alloc blk) wa2) :
    wa2.heap[WA.heap.size]? = some (.cells fb 35 (0, 0)) ∧ ∀ WB, wa2.setCell ⟨WA.heap.size, 2, none⟩ (.slice a2 n2 p2) = WB → WB.heap[WA.heap.size]? = some (.cells (fb.setIfInBounds 2 (.slice a2 n2 p2)) 35 (0, 0)) ∧ Cod WB (WA.alloc (.cells fb 35)).heap.size (.slice a2 n2 p2) d ∧ Below WA.heap.size WA WB := by
  have hs : (WA.alloc (.cells fb 35)).heap.size = WA.heap.size + 1 := by simp
  have hb : Below wa1.heap.size wa1 (wa1.alloc blk) := below1 _ _
  have k3 := own_below (o1.later hb) k2 (Nat.le_trans k1.size hb.size)
  have kk : Below (WA.alloc (.cells fb 35)).heap.size (WA.alloc (.cells fb 35)) wa2 := (k1.alloc k1.size blk).trans k3
  have z : wa2.heap[WA.heap.size]? = some (.cells fb 35 (0, 0)) := (kk.block _ (by omega)).trans (heap_alloc_new _ _)
  refine ⟨z, ?_⟩
  rintro WB rfl
  refine ⟨box_set z 2 _, ⟨ownsRow_of o2.1 (fun k hk => (Keeps.setCell (F := fun j => j = WA.heap.size) wa2 ⟨WA.heap.size, 2, none⟩ _ rfl).block k (o2.1.lt k hk).2 (by have := (o2.1.lt k hk).1; omega)), o2.2⟩, ?_⟩
  exact (((below1 WA _).trans (kk.mono (by omega))).setCell (Nat.le_refl _) _)
/-- the module's box, the function's, the three turned ones' -/
structure PrgAt (V : World) (B b4 b5 b6 b7 b8 bt bf bm bg be bd : Nat) (cv v6 v7 v8 : Value) (K c6 c7 c8 : List Ins) : Prop where
  mod : V.heap[b4]? = some (.cells #[.slice (some ⟨bt, 0, none⟩) 1 1, .slice (some ⟨bf, 0, none⟩) 1 1, .slice (some ⟨bm, 0, none⟩) 1 1, .slice (some ⟨bg, 0, none⟩) 2 2, .slice (some ⟨be, 0, none⟩) 1 1, .int .i64 (-1), .slice (some ⟨bd, 0, none⟩) 1 1] 31 (0, 0))
  f5 : V.heap[b5]? = some (.cells #[.int .i64 0, .string ⟨#[127, 126]⟩, cv] 35 (0, 0))
  f6 : V.heap[b6]? = some (.cells #[.int .i64 0, .string ⟨#[127, 126]⟩, v6] 35 (0, 0))
  f7 : V.heap[b7]? = some (.cells #[.int .i64 0, .string ⟨#[127, 126]⟩, v7] 35 (0, 0))
  f8 : V.heap[b8]? = some (.cells #[.int .i64 0, .string ⟨#[127, 126]⟩, v8] 35 (0, 0))
  made : MadeAt V B bt bf bm bg be bd cv K
  d5 : CodeAt V cv (K.map toL)
  d6 : CodeAt V v6 (c6.map toL)
  d7 : CodeAt V v7 (c7.map toL)
  d8 : CodeAt V v8 (c8.map toL)
theorem PrgAt.later {V V' : World} {B b4 b5 b6 b7 b8 bt bf bm bg be bd : Nat} {cv v6 v7 v8 : Value} {K c6 c7 c8 : List Ins} (h : PrgAt V B b4 b5 b6 b7 b8 bt bf bm bg be bd cv v6 v7 v8 K c6 c7 c8) (c : Below V.heap.size V V') : PrgAt V' B b4 b5 b6 b7 b8 bt bf bm bg be bd cv v6 v7 v8 K c6 c7 c8 :=
  ⟨box_later c h.mod, box_later c h.f5, box_later c h.f6, box_later c h.f7, box_later c h.f8, h.made.later c, ListAt.later lasts_ins h.d5 c, ListAt.later lasts_ins h.d6 c, ListAt.later lasts_ins h.d7 c, ListAt.later lasts_ins h.d8 c⟩
theorem seven_at {V : World} {b : Nat} {t : TypeId} {u0 u1 u2 u3 u4 u5 u6 : Value} (h : V.heap[b]? = some (.cells #[u0, u1, u2, u3, u4, u5, u6] t (0, 0))) : V.cell? ⟨b, 0, none⟩ = some u0 ∧ V.cell? ⟨b, 1, none⟩ = some u1 ∧ V.cell? ⟨b, 2, none⟩ = some u2 ∧ V.cell? ⟨b, 3, none⟩ = some u3 ∧ V.cell? ⟨b, 4, none⟩ = some u4 ∧ V.cell? ⟨b, 5, none⟩ = some u5 ∧ V.cell? ⟨b, 6, none⟩ = some u6 :=
  ⟨box_at h 0 _ rfl, box_at h 1 _ rfl, box_at h 2 _ rfl, box_at h 3 _ rfl, box_at h 4 _ rfl, box_at h 5 _ rfl, box_at h 6 _ rfl⟩
theorem three_at {V : World} {b : Nat} {t : TypeId} {u0 u1 u2 : Value} (h : V.heap[b]? = some (.cells #[u0, u1, u2] t (0, 0))) : V.cell? ⟨b, 0, none⟩ = some u0 ∧ V.cell? ⟨b, 1, none⟩ = some u1 ∧ V.cell? ⟨b, 2, none⟩ = some u2 :=
  ⟨box_at h 0 _ rfl, box_at h 1 _ rfl, box_at h 2 _ rfl⟩
end Go.Proofs.YthcjgdmmpopplaaGreatDoor.Vld
