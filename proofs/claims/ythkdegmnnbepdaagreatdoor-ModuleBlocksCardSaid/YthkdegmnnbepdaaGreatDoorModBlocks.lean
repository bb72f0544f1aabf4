/-
  The law of blocks: the walk. No condition beyond what each theorem names.
-/
import Derived.Test.YthkdegmnnbepdaaGreatDoorModEx
import Derived.Test.YthkdegmnnbepdaaGreatDoorModApp
import Derived.Test.YthkdegmnnbepdaaGreatDoorModBlocksP
namespace Go.Proofs.YthkdegmnnbepdaaGreatDoor.Mod
open Go.RowKit Go.Maps Go.Proofs.YthkdegmnnbepdaaGreatDoor.Op Go.Proofs.YthkdegmnnbepdaaGreatDoor.Pg
set_option linter.unusedVariables false
/-- a slice of integers of some kind -/
def NumsAt (k : IntKind) (w : World) (v : Value) (zs : List Int) : Prop := ∃ la c, v = .slice la zs.length c ∧ zs.length ≤ 9223372036854775807 ∧ ∀ i z, zs[i]? = some z → ∃ b off, la = some ⟨b, off, none⟩ ∧ w.cell? ⟨b, off + i, none⟩ = some (.int k z)
/-- code of no labels, an own row -/
def Cod (w : World) (B : Nat) (v : Value) (c : List Ins) : Prop := OwnAt w B 40 4 v (c.map Ins.cells)
theorem Cod.at {w : World} {B : Nat} {v : Value} {c : List Ins} (h : Cod w B v c) (hl : c.length ≤ 1000000000) (hw : ∀ x ∈ c, (Lit.int .i64 x.op).wf = true) : CodeAt w v (c.map toL) := by
  have h2 : OwnAt w B 40 4 v ((c.map toL).map fun x => [.int .i64 x.op, .int .i64 x.a, .int .i64 x.b, .slice none 0 0]) := by
    rw [List.map_map]
    exact h
  refine ⟨_, h2.row (by decide) (by rw [List.length_map, List.length_map]; omega), by rw [List.length_map], fun i r x hr hx => ?_⟩
  rw [List.getElem?_map, hx] at hr
  obtain rfl := Option.some.inj hr
  have hm := List.mem_of_getElem? hx
  obtain ⟨y, hy, rfl⟩ := List.mem_map.1 hm
  exact ⟨.slice none 0 0, rfl, .inl ⟨rfl, rfl⟩, hw y hy⟩
theorem ins_cells_one (x : Ins) : ∀ u ∈ x.cells, u.oneCell' = true := by
  intro u hu
  simp [Ins.cells] at hu
  rcases hu with rfl | rfl | rfl | rfl <;> rfl
theorem cod_len {w : World} {B : Nat} {a : Option Addr} {n m cap : Nat} {c : List Ins} (h : Cod w B (.slice a n cap) c) (e : m = n) : Cod w B (.slice a m cap) c := by rw [e]; exact h
theorem Cod.later {w w' : World} {B : Nat} {v : Value} {c : List Ins} (h : Cod w B v c) (hb : Below w.heap.size w w') : Cod w' B v c := OwnAt.later h hb
theorem Cod.new (W : World) (o a b : Int) : Cod (W.alloc (.cells #[.int .i64 o, .int .i64 a, .int .i64 b, .slice none 0 0] 40)) W.heap.size (.slice (some ⟨W.heap.size, 0, none⟩) 1 1) [⟨o, a, b⟩] :=
  ⟨⟨rfl, .inr ⟨W.heap.size, 1, _, rfl, Nat.le_refl _, heap_alloc_new _ _, Nat.le_refl _, by decide, rfl, rfl⟩⟩, fun r hr => by rw [List.mem_singleton.1 hr]; rfl⟩
theorem Cod.nil (w : World) (B : Nat) : Cod w B (.slice none 0 0) [] := own_nil _ _ _ _
/-- one instruction more -/
theorem wpList_ins {W : World} {ops : Array Oper} {rest : List Oper} {o : Oper} {act : Act} {Q : Exit → Act → World → Prop} (hgd : o.guard = none) (s x : Operand)
    (ho : o.op = .call { callee := .builtin .append, args := #[s, x], argTypes := #[31, 31] }) {B : Nat} {v : Value} {c : List Ins} (hs : act.eval s = v) (hown : Cod W B v c)
    (op a b : Int) (hx : act.eval x = .slice (some ⟨W.heap.size, 0, none⟩) 1 1) (hroom : c.length < 1000000000) (hbase : B ≤ W.heap.size)
    (h : ∀ a' cap w', Cod w' B (.slice a' (c.length + 1) cap) (c ++ [⟨op, a, b⟩]) → Keeps (fun j => v.ownBlock = some j) W w' → newBlock v (.slice a' (c.length + 1) cap) W → wpList Tryz.prog ops Q rest (act.put o.dst (.slice a' (c.length + 1) cap)) w') : wpList Tryz.prog ops Q (o :: rest) act (W.alloc (.cells #[.int .i64 op, .int .i64 a, .int .i64 b, .slice none 0 0] 40)) := by
  refine wpList_put ty_ins hgd s x ho hs hown (Ins.cells ⟨op, a, b⟩) rfl hx (ins_cells_one _) ⟨by rw [List.length_map]; omega, by decide⟩ hbase (fun a' cap w' q1 q2 q3 => ?_)
  rw [List.length_map] at q1 q3 ⊢
  refine h a' cap w' ?_ q2 q3
  unfold Cod
  rw [List.map_append]
  exact q1
/-- a copy of code, onto nil -/
theorem wpList_whole {W : World} {ops : Array Oper} {rest : List Oper} {o : Oper} {act : Act} {Q : Exit → Act → World → Prop} (hgd : o.guard = none) (s x : Operand)
    (ho : o.op = .call { callee := .builtin .append, args := #[s, x], argTypes := #[31, 31] }) {B B0 : Nat} {v v0 : Value} {c c0 : List Ins} (hs : act.eval s = v0) (hown0 : Cod W B0 v0 c0) (hx : act.eval x = v) (hown : Cod W B v c)
    (hroom : c0.length + c.length ≤ 1000000000) (hbase : B0 ≤ W.heap.size)
    (h : ∀ a' cap w', Cod w' B0 (.slice a' (c0.length + c.length) cap) (c0 ++ c) → Keeps (fun j => v0.ownBlock = some j) W w' → newBlock v0 (.slice a' (c0.length + c.length) cap) W → wpList Tryz.prog ops Q rest (act.put o.dst (.slice a' (c0.length + c.length) cap)) w') : wpList Tryz.prog ops Q (o :: rest) act W := by
  have hrow := OwnAt.row hown (by decide) (by rw [List.length_map]; omega)
  obtain ⟨A, cp, rfl⟩ := own_form hown.1
  refine wpList_app ty_ins hgd s x ho hs hown0 hx hrow (fun r hr u hu => by obtain ⟨y, _, rfl⟩ := List.mem_map.1 hr; exact ins_cells_one y u hu) ⟨by rw [List.length_map, List.length_map]; omega, by decide⟩ hbase (fun a' cap w' q1 q2 q3 => ?_)
  rw [List.length_map, List.length_map] at q1 q3 ⊢
  refine h a' cap w' ?_ q2 q3
  unfold Cod
  rw [List.map_append]
  exact q1
theorem struct_cod {W : World} {B : Nat} {v : Value} {c : List Ins} {r : Bool} (h : Cod W B v c) (hl : c.length ≤ 100000) (hw : ∀ x ∈ c, (Lit.int .i64 x.op).wf = true) (hr : structB [] (c.map Ins.op) = r) :
    Calls Tryz.prog 13 #[v] W fun e w' => e = .returned (.bool r) ∧ Below W.heap.size W w' := by
  have h2 := struct_any (c.map toL) v W (h.at (by omega) hw) (by rw [List.length_map]; omega)
  rw [code_toL, hr] at h2
  exact h2
theorem wf_snoc {c : List Ins} (hw : ∀ x ∈ c, (Lit.int .i64 x.op).wf = true) {o a b : Int} (ho : (Lit.int .i64 o).wf = true) : ∀ x ∈ c ++ [⟨o, a, b⟩], (Lit.int .i64 x.op).wf = true := fun x hx => (List.mem_append.1 hx).elim (hw x) (fun h => by rw [List.mem_singleton.1 h]; exact ho)
theorem wf_cons {c : List Ins} (hw : ∀ x ∈ c, (Lit.int .i64 x.op).wf = true) {o a b : Int} (ho : (Lit.int .i64 o).wf = true) : ∀ x ∈ (⟨o, a, b⟩ : Ins) :: c, (Lit.int .i64 x.op).wf = true := fun x hx => (List.mem_cons.1 hx).elim (fun h => by rw [h]; exact ho) (hw x)
end Go.Proofs.YthkdegmnnbepdaaGreatDoor.Mod
