/-
  How a module lies in memory. Plain but for the shape of memory.
-/
import Derived.Test.YtmbgemcddjailaaGreatDoorOpRg
import Derived.Test.YtmbgemcddjailaaGreatDoorModPlain
namespace Go.Proofs.YtmbgemcddjailaaGreatDoor.Mod
open Go.RowKit Go.Maps Go.Proofs.YtmbgemcddjailaaGreatDoor.Op
set_option linter.unusedVariables false
/-- rows of cells, a slice's -/
def RowAt (w : World) (size : Nat) (v : Value) (rows : List (List Value)) : Prop :=
  ∃ la c, v = .slice la rows.length c ∧ rows.length ≤ 9223372036854775807 ∧ (∀ i r, rows[i]? = some r → r.length = size ∧ ∃ b off, la = some ⟨b, off, none⟩ ∧ b < w.heap.size ∧ ∀ j u, r[j]? = some u → w.cell? ⟨b, off + i * size + j, none⟩ = some u)
theorem RowAt.later {w w' : World} {size : Nat} {v : Value} {rows : List (List Value)} (h : RowAt w size v rows) (hb : Below w.heap.size w w') : RowAt w' size v rows := by
  obtain ⟨la, c, hv, hl, h⟩ := h
  refine ⟨la, c, hv, hl, fun i r hr => ?_⟩
  obtain ⟨h1, b, off, h2, h3, h4⟩ := h i r hr
  exact ⟨h1, b, off, h2, Nat.lt_of_lt_of_le h3 hb.size, fun j u hu => cell_later hb (h4 j u hu)⟩
/-- a list of things, each a row -/
def ListAt {α : Type} (size : Nat) (R : World → List Value → α → Prop) (w : World) (v : Value) (l : List α) : Prop :=
  ∃ rows, RowAt w size v rows ∧ rows.length = l.length ∧ ∀ (i : Nat) r x, rows[i]? = some r → l[i]? = some x → R w r x
def Lasts {α : Type} (R : World → List Value → α → Prop) : Prop := ∀ w w' r x, R w r x → Below w.heap.size w w' → R w' r x
theorem ListAt.later {α : Type} {size : Nat} {R : World → List Value → α → Prop} (hR : Lasts R) {w w' : World} {v : Value} {l : List α} (h : ListAt size R w v l) (hb : Below w.heap.size w w') : ListAt size R w' v l := by
  obtain ⟨rows, h1, h2, h3⟩ := h
  exact ⟨rows, h1.later hb, h2, fun i r x hr hx => hR _ _ _ _ (h3 i r x hr hx) hb⟩
def isFT (_ : World) (r : List Value) (x : FT) : Prop := r = x.cells ∧ x.params.size ≤ 9223372036854775807 ∧ x.results.size ≤ 9223372036854775807
def isMem (_ : World) (r : List Value) (x : MemP) : Prop := r = x.cells
def isGlob (_ : World) (r : List Value) (x : GlobP) : Prop := r = x.cells
def isExp (_ : World) (r : List Value) (x : ExpP) : Prop := r = x.cells ∧ x.name.size ≤ 9223372036854775807
def isData (_ : World) (r : List Value) (x : DataP) : Prop := r = x.cells ∧ x.bytes.size ≤ 9223372036854775807
def isIns (w : World) (r : List Value) (x : InsL) : Prop := ∃ lv, r = [.int .i64 x.op, .int .i64 x.a, .int .i64 x.b, lv] ∧ IntsAt w lv x.labels ∧ (Lit.int .i64 x.op).wf = true
theorem intsAt_form {w : World} {v : Value} {zs : List Int} (h : IntsAt w v zs) : ∃ a c, v = .slice a zs.length c := by
  rcases h with ⟨rfl, rfl⟩ | ⟨b, off, c, rfl, _, _⟩ | ⟨a, c, rfl, rfl⟩
  · exact ⟨none, 0, rfl⟩
  · exact ⟨_, c, rfl⟩
  · exact ⟨a, c, rfl⟩
theorem lasts_ins : Lasts isIns := fun w w' r x ⟨lv, h1, h2, h3⟩ hb => ⟨lv, h1, intsAt_later h2 hb, h3⟩
def CodeAt : World → Value → List InsL → Prop := ListAt 4 isIns
def isFunc (w : World) (r : List Value) (x : FuncP) : Prop := ∃ cv, r = [.int .i64 x.ty, .string x.locals, cv] ∧ CodeAt w cv x.code ∧ x.locals.size ≤ 9223372036854775807 ∧ x.code.length * 48 ≤ 140737488355328
theorem lasts_func : Lasts isFunc := fun w w' r x ⟨cv, h1, h2, h3⟩ hb => ⟨cv, h1, h2.later lasts_ins hb, h3⟩
theorem lasts_ft : Lasts isFT := fun _ _ _ _ h _ => h
theorem lasts_mem : Lasts isMem := fun _ _ _ _ h _ => h
theorem lasts_glob : Lasts isGlob := fun _ _ _ _ h _ => h
theorem lasts_exp : Lasts isExp := fun _ _ _ _ h _ => h
theorem lasts_data : Lasts isData := fun _ _ _ _ h _ => h
def TypesAt : World → Value → List FT → Prop := ListAt 2 isFT
def FuncsAt : World → Value → List FuncP → Prop := ListAt 3 isFunc
def MemsAt : World → Value → List MemP → Prop := ListAt 2 isMem
def GlobsAt : World → Value → List GlobP → Prop := ListAt 3 isGlob
def ExpsAt : World → Value → List ExpP → Prop := ListAt 3 isExp
def DatasAt : World → Value → List DataP → Prop := ListAt 2 isData
/-- a module's cells -/
structure ModAt (w : World) (t f me g e : Value) (st : Int) (d : Value) (m : ModP) : Prop where
  types : TypesAt w t m.types
  funcs : FuncsAt w f m.funcs
  memory : MemsAt w me m.memory
  globals : GlobsAt w g m.globals
  exports : ExpsAt w e m.exports
  start : st = m.start
  data : DatasAt w d m.data
theorem ModAt.later {w w' : World} {t f me g e d : Value} {st : Int} {m : ModP} (h : ModAt w t f me g e st d m) (hb : Below w.heap.size w w') : ModAt w' t f me g e st d m :=
  ⟨h.types.later lasts_ft hb, h.funcs.later lasts_func hb, h.memory.later lasts_mem hb, h.globals.later lasts_glob hb, h.exports.later lasts_exp hb, h.start, h.data.later lasts_data hb⟩
def modV (t f me g e : Value) (st : Int) (d : Value) : Value := .agg #[t, f, me, g, e, .int .i64 st, d]
/-- of a slice known by rows: the address, the cells of one -/
theorem ListAt.form {α : Type} {size : Nat} {R : World → List Value → α → Prop} {w : World} {v : Value} {l : List α} (h : ListAt size R w v l) :
    ∃ la c, v = .slice la l.length c ∧ l.length ≤ 9223372036854775807 ∧ ∀ i x, l[i]? = some x → ∃ r, R w r x ∧ r.length = size ∧ ∃ b off, la = some ⟨b, off, none⟩ ∧ b < w.heap.size ∧ ∀ j u, r[j]? = some u → w.cell? ⟨b, off + i * size + j, none⟩ = some u := by
  obtain ⟨rows, ⟨la, c, hv, hle, hr⟩, hl, hx⟩ := h
  rw [hl] at hv hle
  refine ⟨la, c, hv, hle, fun i x hi => ?_⟩
  have hlt := (List.getElem?_eq_some_iff.1 hi).1
  have hri : rows[i]? = some rows[i] := List.getElem?_eq_getElem (by omega)
  obtain ⟨h1, h2⟩ := hr i _ hri
  exact ⟨_, hx i _ x hri hi, h1, h2⟩
theorem ListAt.mk {α : Type} {size : Nat} {R : World → List Value → α → Prop} {w : World} {la : Option Addr} {c : Nat} {l : List α} (hle : l.length ≤ 9223372036854775807)
    (h : ∀ i x, l[i]? = some x → ∃ r, R w r x ∧ r.length = size ∧ ∃ b off, la = some ⟨b, off, none⟩ ∧ b < w.heap.size ∧ ∀ j u, r[j]? = some u → w.cell? ⟨b, off + i * size + j, none⟩ = some u) : ListAt size R w (.slice la l.length c) l := by
  have hr : ∀ i, i < l.length → ∃ r, ∀ x, l[i]? = some x → R w r x ∧ r.length = size ∧ ∃ b off, la = some ⟨b, off, none⟩ ∧ b < w.heap.size ∧ ∀ j u, r[j]? = some u → w.cell? ⟨b, off + i * size + j, none⟩ = some u := fun i hi => by
    obtain ⟨r, h1⟩ := h i _ (List.getElem?_eq_getElem hi)
    refine ⟨r, fun x hx => ?_⟩
    rw [List.getElem?_eq_getElem hi] at hx
    rw [← Option.some.inj hx]
    exact h1
  have key : ∀ n, n ≤ l.length → ∃ rows : List (List Value), rows.length = n ∧ ∀ i r x, rows[i]? = some r → l[i]? = some x → R w r x ∧ r.length = size ∧ ∃ b off, la = some ⟨b, off, none⟩ ∧ b < w.heap.size ∧ ∀ j u, r[j]? = some u → w.cell? ⟨b, off + i * size + j, none⟩ = some u := by
    intro n
    induction n with
    | zero => exact fun _ => ⟨[], rfl, fun i r x h1 => by simp at h1⟩
    | succ n ih =>
      intro hn
      obtain ⟨rows, hl, hp⟩ := ih (by omega)
      obtain ⟨r0, h0⟩ := hr n (by omega)
      refine ⟨rows ++ [r0], by simp [hl], fun i r x hi hx => ?_⟩
      by_cases hlt : i < rows.length
      · rw [List.getElem?_append_left hlt] at hi
        exact hp i r x hi hx
      · have := (List.getElem?_eq_some_iff.1 hi).1
        simp at this
        obtain rfl : i = rows.length := by omega
        simp at hi
        rw [← hi]
        rw [hl] at hx ⊢
        exact h0 x hx
  obtain ⟨rows, hl, hp⟩ := key l.length (Nat.le_refl _)
  refine ⟨rows, ⟨la, c, by rw [hl], by omega, fun i r hi => ?_⟩, hl, fun i r x hi hx => (hp i r x hi hx).1⟩
  have hlt := (List.getElem?_eq_some_iff.1 hi).1
  exact (hp i r _ hi (List.getElem?_eq_getElem (by omega))).2
theorem two {cs : List Value} (h : cs.length = 2) : ∃ c0 c1, cs = [c0, c1] := by
  match cs, h with
  | [c0, c1], _ => exact ⟨c0, c1, rfl⟩
theorem three {cs : List Value} (h : cs.length = 3) : ∃ c0 c1 c2, cs = [c0, c1, c2] := by
  match cs, h with
  | [c0, c1, c2], _ => exact ⟨c0, c1, c2, rfl⟩
theorem four {cs : List Value} (h : cs.length = 4) : ∃ c0 c1 c2 c3, cs = [c0, c1, c2, c3] := by
  match cs, h with
  | [c0, c1, c2, c3], _ => exact ⟨c0, c1, c2, c3, rfl⟩
/-- what is asked of a predicate: at each row it answers, and leaves what was -/
def PredRow (g : Nat) (lb : Array Value) (rows : List (List Value)) (p : Nat → Bool) (w : World) : Prop :=
  ∀ (W : World) (j : Nat) (r : List Value), rows[j]? = some r → Below w.heap.size w W → Calls Tryz.prog g (#[.agg r.toArray] ++ lb) W fun e w' => e = .returned (.bool (p j)) ∧ Below W.heap.size W w'
theorem PredRow.rebase {g : Nat} {lb : Array Value} {rows : List (List Value)} {p : Nat → Bool} {w w1 : World} (h : PredRow g lb rows p w) (hb : Below w.heap.size w w1) : PredRow g lb rows p w1 :=
  fun W j r hr hB => h W j r hr (hb.trans (hB.mono hb.size))
end Go.Proofs.YtmbgemcddjailaaGreatDoor.Mod
