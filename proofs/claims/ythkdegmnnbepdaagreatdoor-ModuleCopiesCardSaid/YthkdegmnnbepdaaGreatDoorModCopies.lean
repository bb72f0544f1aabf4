/-
  The law of copies: how a copy lies whose numbers are turned. No condition beyond what each theorem names.
-/
import Derived.Test.YthkdegmnnbepdaaGreatDoorModEx
import Derived.Test.YthkdegmnnbepdaaGreatDoorModOpen
namespace Go.Proofs.YthkdegmnnbepdaaGreatDoor.Mod
open Go.RowKit Go.Maps Go.Proofs.YthkdegmnnbepdaaGreatDoor.Op Go.Proofs.YthkdegmnnbepdaaGreatDoor.Pg
set_option linter.unusedVariables false
def bytesD : ByteArray := ⟨#[115, 111, 109, 101, 32, 98, 121, 116, 101, 115]⟩
/-- a made module, its code and its data's place others -/
def modC (cl : List InsL) (off : Int) : ModP := ⟨[⟨⟨#[126, 127]⟩, ⟨#[126]⟩⟩], [⟨0, ⟨#[127, 126]⟩, cl⟩], [⟨1, 2⟩], [⟨127, true, 5⟩, ⟨126, true, -5⟩], [⟨⟨#[102]⟩, 0, 0⟩], -1, [⟨off, bytesD⟩]⟩
theorem modOf_C (c : List Ins) : modOf c = modC (c.map toL) 100 := rfl
theorem modC_room (cl : List InsL) (off : Int) (h : cl.length ≤ 100000) (hl : ∀ y ∈ cl, y.labels.length ≤ 1000000000) : ModRoom (modC cl off) := by
  refine ⟨⟨(show 1 ≤ 1000000000 by decide), fun x hx => ?_⟩, ⟨(show 1 ≤ 1000000000 by decide), fun x hx => ?_⟩, (show 1 ≤ 1000000000 by decide), (show 2 ≤ 1000000000 by decide), ⟨(show 1 ≤ 1000000000 by decide), fun x hx => ?_⟩, (show 1 ≤ 1000000000 by decide), fun x hx => ?_⟩
  · obtain rfl := List.mem_singleton.1 hx
    decide
  · obtain rfl := List.mem_singleton.1 hx
    exact ⟨(show 2 ≤ 9223372036854775807 by decide), (by show cl.length * 48 ≤ _; omega), hl⟩
  · obtain rfl := List.mem_singleton.1 hx
    decide
  · obtain rfl := List.mem_singleton.1 hx
    show bytesD.size ≤ _
    decide
/-- a copy in a box, from a base on -/
structure TwoAt (w5 : World) (bb gf capf gc capc gd capd : Nat) (t me g e : Value) (cl : List InsL) (off : Int) (W : World) : Prop where
  types : OwnAt W w5.heap.size 68 2 t ((modC cl off).types.map FT.cells)
  func : OwnAt W w5.heap.size 33 3 (.slice (some ⟨gf, 0, none⟩) 1 capf) [[.int .i64 0, .string ⟨#[127, 126]⟩, .slice (some ⟨gc, 0, none⟩) cl.length capc]]
  code : CodeOwn W w5.heap.size (.slice (some ⟨gc, 0, none⟩) cl.length capc) cl
  memory : OwnAt W w5.heap.size 62 2 me ((modC cl off).memory.map MemP.cells)
  globals : OwnAt W w5.heap.size 60 3 g ((modC cl off).globals.map GlobP.cells)
  exports : OwnAt W w5.heap.size 58 3 e ((modC cl off).exports.map ExpP.cells)
  data : OwnAt W w5.heap.size 49 2 (.slice (some ⟨gd, 0, none⟩) 1 capd) [[.int .i64 off, .string bytesD]]
  box : W.heap[bb]? = some (.cells #[t, .slice (some ⟨gf, 0, none⟩) 1 capf, me, g, e, .int .i64 (-1), .slice (some ⟨gd, 0, none⟩) 1 capd] 29 (0, 0))
  below : Below w5.heap.size w5 W
theorem TwoAt.own {w5 W : World} {bb gf capf gc capc gd capd : Nat} {t me g e : Value} {cl : List InsL} {off : Int} (h : TwoAt w5 bb gf capf gc capc gd capd t me g e cl off W) : OwnMod W w5.heap.size t (.slice (some ⟨gf, 0, none⟩) 1 capf) me g e (.slice (some ⟨gd, 0, none⟩) 1 capd) (modC cl off) := by
  refine ⟨h.types, ⟨_, h.func, rfl, fun i r x hr hx => ?_⟩, h.memory, h.globals, h.exports, h.data⟩
  match i, hr, hx with
  | 0, hr, hx =>
    obtain rfl := Option.some.inj hr
    obtain rfl := Option.some.inj hx
    exact ⟨_, rfl, h.code⟩
  | i + 1, hr, hx => simp at hr
theorem CodeOwn.later {w w' : World} {B : Nat} {v : Value} {code : List InsL} (h : CodeOwn w B v code) (hb : Below w.heap.size w w') : CodeOwn w' B v code := h.keeps (Keeps.of_below (F := fun _ => False) hb) (fun j hj => hj.elim)
theorem TwoAt.later {w5 W W' : World} {bb gf capf gc capc gd capd : Nat} {t me g e : Value} {cl : List InsL} {off : Int} (h : TwoAt w5 bb gf capf gc capc gd capd t me g e cl off W) (c : Below W.heap.size W W') : TwoAt w5 bb gf capf gc capc gd capd t me g e cl off W' :=
  ⟨h.types.later c, h.func.later c, h.code.later c, h.memory.later c, h.globals.later c, h.exports.later c, h.data.later c, (c.block _ (Array.getElem?_eq_some_iff.1 h.box).1).trans h.box, h.below.trans (c.mono h.below.size)⟩
/-- what a copy of a made module is like -/
theorem two_start {w5 W6 : World} {t f me g e d : Value} {cl : List InsL} {off : Int} (hcl : 0 < cl.length) (h : OwnMod W6 w5.heap.size t f me g e d (modC cl off)) (h6 : Below w5.heap.size w5 W6) :
    ∃ gf capf gc capc gd capd, f = .slice (some ⟨gf, 0, none⟩) 1 capf ∧ d = .slice (some ⟨gd, 0, none⟩) 1 capd ∧ (∀ W, W6.alloc (.cells #[t, f, me, g, e, .int .i64 (-1), d] 29) = W → TwoAt w5 W6.heap.size gf capf gc capc gd capd t me g e cl off W) := by
  obtain ⟨rows, q1, q2, q3⟩ := h.funcs
  have q2' : rows.length = 1 := q2
  obtain ⟨r, rfl⟩ : ∃ r, rows = [r] := by
    match rows, q2' with
    | [r], _ => exact ⟨r, rfl⟩
  obtain ⟨gf, capf, rfl, _, _⟩ := q1.block (i := 0) rfl
  obtain ⟨cv, rfl, hcode⟩ := q3 0 r _ rfl rfl
  obtain ⟨rows2, e1, e2, e3⟩ := hcode
  obtain ⟨r2, hr2⟩ : ∃ r, rows2[0]? = some r := ⟨_, List.getElem?_eq_getElem (by have e2' : rows2.length = cl.length := e2; omega)⟩
  obtain ⟨gc, capc, rfl, _, _⟩ := e1.block hr2
  obtain ⟨gd, capd, hd, _, _⟩ := OwnAt.block h.data (i := 0) rfl
  have hd2 : d = .slice (some ⟨gd, 0, none⟩) 1 capd := hd
  subst hd2
  refine ⟨gf, capf, gc, capc, gd, capd, rfl, rfl, fun W hW => ?_⟩
  have c : Below W6.heap.size W6 W := by rw [← hW]; exact (Below.refl _ _).alloc (Nat.le_refl _) _
  have e2' : rows2.length = cl.length := e2
  rw [e2'] at e1 q1
  exact ⟨h.types.later c, q1.later c, CodeOwn.later ⟨rows2, e1, e2', e3⟩ c, h.memory.later c, h.globals.later c, h.exports.later c, h.data.later c, by rw [← hW]; exact heap_alloc_new _ _, h6.trans (c.mono h6.size)⟩
theorem kind_box {w5 W : World} {bb gf capf gc capc gd capd : Nat} {t me g e : Value} {cl : List InsL} {off : Int} (h : TwoAt w5 bb gf capf gc capc gd capd t me g e cl off W) {b : Nat} {k : TypeId} (hk : KindAt W b k) (hne : 29 ≠ k) (j : Nat) (u : Value) :
    (W.setCell ⟨b, j, none⟩ u).heap[bb]? = some (.cells #[t, .slice (some ⟨gf, 0, none⟩) 1 capf, me, g, e, .int .i64 (-1), .slice (some ⟨gd, 0, none⟩) 1 capd] 29 (0, 0)) := by
  obtain ⟨cs, f, hk⟩ := hk
  rw [Below.heap_setCell _ _ _ _ (fun e1 => ?_)]
  · exact h.box
  · have e2 : bb = b := e1
    have h1 := h.box
    rw [e2, hk] at h1
    simp at h1
    exact hne h1.2.1.symm
/-- an instruction's number turned -/
theorem TwoAt.turn {w5 W : World} {bb gf capf gc capc gd capd : Nat} {t me g e : Value} {cl : List InsL} {off : Int} (h : TwoAt w5 bb gf capf gc capc gd capd t me g e cl off W) {k : Nat} {x : InsL} (hx : cl[k]? = some x) (u : Int) :
    TwoAt w5 bb gf capf gc capc gd capd t me g e (cl.set k { x with a := u }) off (W.setCell ⟨gc, k * 4 + 1, none⟩ (.int .i64 u)) := by
  obtain ⟨rows, h1, h2, h3⟩ := h.code
  have hkl := (List.getElem?_eq_some_iff.1 hx).1
  obtain ⟨r, hr⟩ : ∃ r, rows[k]? = some r := ⟨_, List.getElem?_eq_getElem (by omega)⟩
  obtain ⟨lv, rfl, hlv, hwf⟩ := h3 k r x hr hx
  obtain ⟨c, fz, hk⟩ := Lib.ownsRow_kind h1.1 gc rfl
  have hK : KindAt W gc 40 := ⟨c, fz, hk⟩
  have kk : Keeps (fun j => j = gc) W (W.setCell ⟨gc, k * 4 + 1, none⟩ (.int .i64 u)) := Keeps.setCell (F := fun j => j = gc) W _ _ rfl
  have hlow := (h1.1.lt gc rfl).1
  have hlen : (cl.set k { x with a := u }).length = cl.length := by rw [List.length_set]
  refine ⟨h.types.keepK kk hK (by decide), by rw [hlen]; exact h.func.keepK kk hK (by decide), ?_, h.memory.keepK kk hK (by decide), h.globals.keepK kk hK (by decide), h.exports.keepK kk hK (by decide), h.data.keepK kk hK (by decide), kind_box h hK (by decide) _ _, h.below.trans ((Below.refl _ _).setCell (p := ⟨gc, _, none⟩) hlow _)⟩
  rw [hlen]
  have hput := h1.put h2.symm hr (p := 1) (by omega) (.int .i64 u)
  refine ⟨rows.set k _, hput, by rw [List.length_set, List.length_set]; exact h2, fun i r y hi hy => ?_⟩
  by_cases hik : i = k
  · subst hik
    rw [List.getElem?_set_self (List.getElem?_eq_some_iff.1 hr).1] at hi
    rw [List.getElem?_set_self hkl] at hy
    obtain rfl := Option.some.inj hi
    obtain rfl := Option.some.inj hy
    exact ⟨lv, rfl, OwnAt.keepK hlv kk hK (by decide), hwf⟩
  · rw [List.getElem?_set_ne (by omega)] at hi hy
    obtain ⟨lv2, e1, e2, e3⟩ := h3 i r y hi hy
    exact ⟨lv2, e1, OwnAt.keepK e2 kk hK (by decide), e3⟩
/-- the data's place turned -/
theorem TwoAt.move {w5 W : World} {bb gf capf gc capc gd capd : Nat} {t me g e : Value} {cl : List InsL} {off : Int} (h : TwoAt w5 bb gf capf gc capc gd capd t me g e cl off W) (u : Int) :
    TwoAt w5 bb gf capf gc capc gd capd t me g e cl u (W.setCell ⟨gd, 0, none⟩ (.int .i64 u)) := by
  obtain ⟨c, fz, hk⟩ := Lib.ownsRow_kind h.data.1 gd rfl
  have hK : KindAt W gd 49 := ⟨c, fz, hk⟩
  have kk : Keeps (fun j => j = gd) W (W.setCell ⟨gd, 0, none⟩ (.int .i64 u)) := Keeps.setCell (F := fun j => j = gd) W _ _ rfl
  have hput := OwnAt.put h.data rfl (i := 0) (r := [.int .i64 off, .string bytesD]) rfl (p := 0) (by decide) (.int .i64 u)
  have hc : CodeOwn (W.setCell ⟨gd, 0, none⟩ (.int .i64 u)) w5.heap.size (.slice (some ⟨gc, 0, none⟩) cl.length capc) cl := h.code.keeps kk (fun j hj => .inr ⟨c, 49, fz, by have e : j = gd := hj; rw [e]; exact hk, by decide, by decide⟩)
  exact ⟨h.types.keepK kk hK (by decide), h.func.keepK kk hK (by decide), hc, h.memory.keepK kk hK (by decide), h.globals.keepK kk hK (by decide), h.exports.keepK kk hK (by decide), hput, kind_box h hK (by decide) _ _, h.below.trans ((Below.refl _ _).setCell (p := ⟨gd, _, none⟩) (h.data.1.lt gd rfl).1 _)⟩
/-- what the walk reads of it -/
theorem TwoAt.cells {w5 W : World} {bb gf capf gc capc gd capd : Nat} {t me g e : Value} {cl : List InsL} {off : Int} (h : TwoAt w5 bb gf capf gc capc gd capd t me g e cl off W) {k : Nat} {x : InsL} (hx : cl[k]? = some x) :
    W.cell? ⟨gf, 2, none⟩ = some (.slice (some ⟨gc, 0, none⟩) cl.length capc) ∧ W.cell? ⟨gc, k * 4 + 1, none⟩ = some (.int .i64 x.a) ∧ W.frozen? ⟨gc, k * 4 + 1, none⟩ = false ∧ W.cell? ⟨gd, 0, none⟩ = some (.int .i64 off) ∧ W.frozen? ⟨gd, 0, none⟩ = false := by
  obtain ⟨rows, h1, h2, h3⟩ := h.code
  obtain ⟨r, hr⟩ : ∃ r, rows[k]? = some r := ⟨_, List.getElem?_eq_getElem (by have := (List.getElem?_eq_some_iff.1 hx).1; omega)⟩
  obtain ⟨lv, rfl, _, _⟩ := h3 k r x hr hx
  exact ⟨OwnAt.cell h.func (by decide) (i := 0) (j := 2) rfl rfl, OwnAt.cell h1 (by decide) hr (j := 1) rfl, h1.soft _, OwnAt.cell h.data (by decide) (i := 0) (j := 0) rfl rfl, h.data.soft _⟩
theorem set_ne {cl : List InsL} {k : Nat} {x : InsL} {u : Int} (hx : cl[k]? = some x) (hu : u ≠ x.a) : cl.set k { x with a := u } ≠ cl := fun e => by
  have h : (cl.set k { x with a := u })[k]? = cl[k]? := by rw [e]
  rw [List.getElem?_set_self (List.getElem?_eq_some_iff.1 hx).1, hx] at h
  have h2 := congrArg InsL.a (Option.some.inj h)
  exact hu h2
theorem set_back {cl : List InsL} {k : Nat} {x : InsL} {u v : Int} (hx : cl[k]? = some x) (hv : x.a = v) : (cl.set k { x with a := u }).set k { ({ x with a := u } : InsL) with a := v } = cl := by
  subst hv
  rw [List.set_set]
  refine List.ext_getElem? (fun i => ?_)
  by_cases h : i = k
  · subst h
    rw [List.getElem?_set_self (List.getElem?_eq_some_iff.1 hx).1, hx]
  · rw [List.getElem?_set_ne (by omega)]
theorem two_forms {W : World} {B : Nat} {t f me g e d : Value} {cl : List InsL} {off : Int} (h : OwnMod W B t f me g e d (modC cl off)) : ∃ gt pt gm pm gg pg ge pe, t = .slice (some ⟨gt, 0, none⟩) 1 pt ∧ me = .slice (some ⟨gm, 0, none⟩) 1 pm ∧ g = .slice (some ⟨gg, 0, none⟩) 2 pg ∧ e = .slice (some ⟨ge, 0, none⟩) 1 pe := by
  obtain ⟨gt, pt, h1, _⟩ := OwnAt.block h.types (i := 0) rfl
  obtain ⟨gm, pm, h2, _⟩ := OwnAt.block h.memory (i := 0) rfl
  obtain ⟨gg, pg, h3, _⟩ := OwnAt.block h.globals (i := 0) rfl
  obtain ⟨ge, pe, h4, _⟩ := OwnAt.block h.exports (i := 0) rfl
  exact ⟨gt, pt, gm, pm, gg, pg, ge, pe, h1, h2, h3, h4⟩
theorem made_pos (l : List Step) : 0 < (madeP l).code.length := by unfold madeP lastP putP; simp
theorem same_callC {W : World} {t1 f1 me1 g1 e1 d1 t2 f2 me2 g2 e2 d2 : Value} {st1 st2 : Int} {m1 m2 : ModP} {r : Bool} (h1 : ModAt W t1 f1 me1 g1 e1 st1 d1 m1) (h2 : ModAt W t2 f2 me2 g2 e2 st2 d2 m2) (hl1 : ∀ x ∈ m1.funcs, Labs x.code) (hl2 : ∀ x ∈ m2.funcs, Labs x.code) (hr : sameM m1 m2 = r) :
    Calls Tryz.prog 19 #[.agg #[t1, f1, me1, g1, e1, .int .i64 st1, d1], .agg #[t2, f2, me2, g2, e2, .int .i64 st2, d2]] W fun e w' => e = .returned (.bool r) ∧ Below W.heap.size W w' := by
  have h := sameM_any _ _ _ _ _ _ _ _ _ _ _ _ _ _ _ _ W h1 h2 hl1 hl2
  rw [hr] at h
  exact h
theorem modC_ne {cl cl' : List InsL} {off off' : Int} (h : cl ≠ cl' ∨ off ≠ off') : sameM (modC cl off) (modC cl' off') = false := sameM_ne (fun e => by
  have h1 := congrArg ModP.funcs e
  have h2 := congrArg ModP.data e
  simp [modC] at h1 h2
  rcases h with h | h
  · exact h h1
  · exact h h2)
end Go.Proofs.YthkdegmnnbepdaaGreatDoor.Mod
