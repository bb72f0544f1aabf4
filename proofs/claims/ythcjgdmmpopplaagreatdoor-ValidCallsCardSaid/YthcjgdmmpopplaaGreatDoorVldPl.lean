/-
  VldPlain, VldLaw, VldMade, VldMadeB, VldNest in one.
-/
import Derived.Test.YthcjgdmmpopplaaGreatDoorOpTable
import Derived.Test.YthcjgdmmpopplaaGreatDoorModPlain
import Derived.Test.YthcjgdmmpopplaaGreatDoorPgPlain
/- VldPlain: What package valid's checker does, as functions on plain states. Plain: no program in sight. -/
namespace Go.Proofs.YthcjgdmmpopplaaGreatDoor.Vld
open Go.RowKit Go.Proofs.YthcjgdmmpopplaaGreatDoor.Op Go.Proofs.YthcjgdmmpopplaaGreatDoor.Mod
set_option linter.unusedVariables false
/-- a block that is open -/
structure Fr where
  op : Int
  result : List UInt8
  height : Nat
  dead : Bool
/-- the checker: what stands on its stack, its open blocks, whether something is wrong -/
structure Ck where
  stack : List UInt8
  frames : List Fr
  wrong : Bool
/-- what a function is checked against -/
structure Vn where
  m : ModP
  locals : List UInt8
  result : List UInt8
def wantC (c : Ck) (ok : Bool) : Ck := { c with wrong := c.wrong || !ok }
def popC (c : Ck) : Ck × UInt8 := match c.frames.getLast? with
  | none => (c, 0)
  | some f => if c.stack.length ≤ f.height then (wantC c f.dead, 0) else ({ c with stack := c.stack.dropLast }, c.stack.getLastD 0)
/-- types are taken, these in turn -/
def takeR : List UInt8 → Ck → Ck
  | [], c => c
  | t :: ts, c => takeR ts (wantC (popC c).1 ((popC c).2 == 0 || (popC c).2 == t))
def takeC (ts : List UInt8) (c : Ck) : Ck := takeR ts.reverse c
def putC (ts : List UInt8) (c : Ck) : Ck := { c with stack := c.stack ++ ts }
def setTop (fs : List Fr) (f : Fr) : List Fr := fs.dropLast ++ [f]
def killC (c : Ck) : Ck := match c.frames.getLast? with
  | none => c
  | some f => { c with stack := c.stack.take f.height, frames := setTop c.frames { f with dead := true } }
def kindL (kind : Int) : List UInt8 := if kind = 64 then [] else [UInt8.ofNat (kind % 256).toNat]
def openC (code kind : Int) (c : Ck) : Ck := { c with frames := c.frames ++ [⟨code, kindL kind, c.stack.length, false⟩] }
def shutC (f : Fr) (c : Ck) : Ck := let c1 := takeC f.result c; { wantC c1 (c1.stack.length == f.height) with stack := c1.stack.take f.height }
def labelF (f : Fr) : List UInt8 := if f.op = 3 then [] else f.result
def labelL (fs : List Fr) (n : Nat) : Option (List UInt8) := if n < fs.length then (fs[fs.length - 1 - n]?).map labelF else none
def badC (c : Ck) : Ck := { c with wrong := true }
def orBad {α : Type} (o : Option α) (d : α) (c : Ck) : Ck × α := match o with
  | some x => (c, x)
  | none => (badC c, d)
def labelC (n : Nat) (c : Ck) : Ck × List UInt8 := orBad (labelL c.frames n) [] c
def localC (v : Vn) (n : Nat) (c : Ck) : Ck × List UInt8 := orBad ((v.locals[n]?).map fun b => [b]) [] c
def globalC (v : Vn) (n : Nat) (set : Bool) (c : Ck) : Ck × List UInt8 := match v.m.globals[n]? with
  | none => (badC c, [])
  | some g => (wantC c (g.mut_ || !set), [UInt8.ofNat (g.ty % 256).toNat])
def calleeL (m : ModP) (n : Nat) : Option FT := match m.funcs[n]? with
  | none => none
  | some f => if 0 ≤ f.ty then m.types[f.ty.toNat]? else none
def noFT : FT := ⟨⟨#[]⟩, ⟨#[]⟩⟩
def calleeC (v : Vn) (n : Nat) (c : Ck) : Ck × FT := orBad (calleeL v.m n) noFT c
def reachOf (code : Int) : Int :=
  if code = 40 then 2 else if code = 41 then 3 else if code = 46 then 1 else if code = 47 then 1 else if code = 50 then 1 else if code = 51 then 1 else if code = 52 then 2 else if code = 53 then 2
  else if code = 54 then 2 else if code = 55 then 3 else if code = 59 then 1 else if code = 61 then 1 else if code = 62 then 2 else 0
def allSame (ls : List Int) (t : List UInt8) (c : Ck) : Ck := match ls with
  | [] => c
  | l :: ls => allSame ls t (let r := labelC l.toNat c; wantC r.1 (r.2 == t))
/-- what has to do with blocks; none: it is another one -/
def controlC (v : Vn) (x : InsL) (c : Ck) : Option Ck :=
  if x.op = 0 then some (killC c)
  else if x.op = 2 ∨ x.op = 3 then some (openC x.op x.a c)
  else if x.op = 4 then some (openC 4 x.a (takeC [127] c))
  else if x.op = 5 then some (match c.frames.getLast? with
    | none => c
    | some f => let c1 := shutC f c; { c1 with frames := setTop c1.frames { f with op := 5, dead := false } })
  else if x.op = 11 then some (match c.frames.getLast? with
    | none => c
    | some f => let c1 := wantC (shutC f c) (f.op != 4 || f.result.isEmpty); putC f.result { c1 with frames := c1.frames.dropLast })
  else if x.op = 12 then some (let r := labelC x.a.toNat c; killC (takeC r.2 r.1))
  else if x.op = 13 then some (let r := labelC x.a.toNat (takeC [127] c); putC r.2 (takeC r.2 r.1))
  else if x.op = 14 then some (let r := labelC x.a.toNat (takeC [127] c); killC (takeC r.2 (allSame x.labels r.2 r.1)))
  else if x.op = 15 then some (killC (takeC v.result c))
  else none
/-- an instruction -/
def stepC (v : Vn) (x : InsL) (c : Ck) : Ck := match controlC v x c with
  | some c1 => c1
  | none =>
    if x.op = 16 then (let r := calleeC v x.a.toNat c; putC r.2.results.data.toList (takeC r.2.params.data.toList r.1))
    else if x.op = 26 then (popC c).1
    else if x.op = 27 then
      (let c1 := takeC [127] c
       let a := popC c1
       let b := popC a.1
       let c2 := wantC b.1 (a.2 == b.2 || (a.2 == 0 || b.2 == 0))
       putC [if a.2 ≤ b.2 then b.2 else a.2] c2)
    else if x.op = 32 then (let r := localC v x.a.toNat c; putC r.2 r.1)
    else if x.op = 33 then (let r := localC v x.a.toNat c; takeC r.2 r.1)
    else if x.op = 34 then (let r := localC v x.a.toNat c; putC r.2 (takeC r.2 r.1))
    else if x.op = 35 then (let r := globalC v x.a.toNat false c; putC r.2 r.1)
    else if x.op = 36 then (let r := globalC v x.a.toNat true c; takeC r.2 r.1)
    else match opInfo x.op with
      | none => c
      | some i =>
        let c1 := wantC c (!v.m.memory.isEmpty || (i.shape != 5 && i.shape != 6))
        let c2 := wantC c1 (i.shape != 5 || decide (x.a ≤ reachOf x.op))
        putC i.results.data.toList (takeC i.params.data.toList c2)
def runC (v : Vn) : List InsL → Ck → Bool
  | [], _ => true
  | x :: xs, c => let c1 := stepC v x c; if c1.wrong then false else runC v xs c1
def startC (r : List UInt8) : Ck := ⟨[], [⟨0, r, 0, false⟩], false⟩
/-- is a function valid -/
def validF (m : ModP) (f : FuncP) : Bool := match (if 0 ≤ f.ty then m.types[f.ty.toNat]? else none) with
  | none => false
  | some t => runC ⟨m, t.params.data.toList ++ f.locals.data.toList, t.results.data.toList⟩ f.code (startC t.results.data.toList)
def nestGo : List Int → Int → Int → Int
  | [], _, most => most
  | o :: os, n, most => let n1 := if o = 2 ∨ o = 3 ∨ o = 4 then n + 1 else if o = 11 then n - 1 else n; nestGo os n1 (if most ≤ n1 then n1 else most)
def nestP (code : List InsL) : Int := nestGo (code.map InsL.op) 0 0
end Go.Proofs.YthcjgdmmpopplaaGreatDoor.Vld

/- VldLaw: What made makes, checked: the checker goes by the very stack that made went by. Plain: no program in sight. -/
namespace Go.Proofs.YthcjgdmmpopplaaGreatDoor.Vld
open Go.RowKit Go.Proofs.YthcjgdmmpopplaaGreatDoor.Op Go.Proofs.YthcjgdmmpopplaaGreatDoor.Mod
set_option linter.unusedVariables false
def tL (x : Pg.Ins) : InsL := ⟨x.op, x.a, x.b, []⟩
/-- through some instructions, nothing wrong -/
def walkC (v : Vn) : List InsL → Ck → Option Ck
  | [], c => some c
  | x :: xs, c => if (stepC v x c).wrong then none else walkC v xs (stepC v x c)
theorem runC_walk (v : Vn) : ∀ (xs : List InsL) (c : Ck), runC v xs c = (walkC v xs c).isSome
  | [], c => rfl
  | x :: xs, c => by
    show (if (stepC v x c).wrong then false else runC v xs (stepC v x c)) = (if (stepC v x c).wrong then none else walkC v xs (stepC v x c)).isSome
    split
    · rfl
    · exact runC_walk v xs _
theorem walk_append (v : Vn) : ∀ (xs ys : List InsL) (c : Ck), walkC v (xs ++ ys) c = (walkC v xs c).bind (walkC v ys)
  | [], ys, c => rfl
  | x :: xs, ys, c => by
    show (if (stepC v x c).wrong then none else walkC v (xs ++ ys) (stepC v x c)) = (if (stepC v x c).wrong then none else walkC v xs (stepC v x c)).bind _
    split
    · rfl
    · exact walk_append v xs ys _
def Goes (v : Vn) (xs : List Pg.Ins) (c c' : Ck) : Prop := walkC v (xs.map tL) c = some c'
theorem Goes.nil (v : Vn) (c : Ck) : Goes v [] c c := rfl
theorem Goes.trans {v : Vn} {xs ys : List Pg.Ins} {a b c : Ck} (h : Goes v xs a b) (k : Goes v ys b c) : Goes v (xs ++ ys) a c := by
  unfold Goes at *
  rw [List.map_append, walk_append, h]
  exact k
theorem Goes.one {v : Vn} {x : Pg.Ins} {c c' : Ck} (h : stepC v (tL x) c = c') (hw : c'.wrong = false) : Goes v [x] c c' := by
  show (if (stepC v (tL x) c).wrong then none else walkC v [] (stepC v (tL x) c)) = _
  rw [h, hw]
  rfl
theorem want_true {c : Ck} {b : Bool} (h : b = true) : wantC c b = c := by
  subst h
  cases c
  simp [wantC]
theorem pop_eq {st : List UInt8} {t : UInt8} {fs : List Fr} {f : Fr} {b : Bool} (hf : fs.getLast? = some f) (hh : f.height ≤ st.length) : popC ⟨st ++ [t], fs, b⟩ = (⟨st, fs, b⟩, t) := by
  unfold popC
  simp only [hf]
  rw [if_neg (by simp; omega)]
  simp [List.getLastD_eq_getLast?]
theorem takeR_eq {fs : List Fr} {f : Fr} {b : Bool} (hf : fs.getLast? = some f) : ∀ (rs st : List UInt8), f.height ≤ st.length → takeR rs ⟨st ++ rs.reverse, fs, b⟩ = ⟨st, fs, b⟩
  | [], st, _ => by simp [takeR]
  | t :: rs, st, hh => by
    unfold takeR
    rw [List.reverse_cons, ← List.append_assoc, pop_eq hf (by simp; omega), want_true (by simp)]
    exact takeR_eq hf rs st hh
theorem take_eq {ps st : List UInt8} {fs : List Fr} {f : Fr} {b : Bool} (hf : fs.getLast? = some f) (hh : f.height ≤ st.length) : takeC ps ⟨st ++ ps, fs, b⟩ = ⟨st, fs, b⟩ := by
  have := takeR_eq (b := b) hf ps.reverse st hh
  rw [List.reverse_reverse] at this
  exact this
/-- what an instruction does to the stack -/
def Eff (v : Vn) (x : InsL) (ps rs : List UInt8) : Prop := ∀ st fs f, fs.getLast? = some f → f.height ≤ st.length → stepC v x ⟨st ++ ps, fs, false⟩ = ⟨st ++ rs, fs, false⟩
def dflt (o : Int) : Prop := o = 1 ∨ 37 ≤ o
theorem control_dflt {v : Vn} {x : InsL} (h : dflt x.op) (c : Ck) : controlC v x c = none := by
  unfold dflt at h
  unfold controlC
  rw [if_neg (by omega), if_neg (by omega), if_neg (by omega), if_neg (by omega), if_neg (by omega), if_neg (by omega), if_neg (by omega), if_neg (by omega), if_neg (by omega)]
theorem control_none {v : Vn} {x : InsL} (h : 16 ≤ x.op) (c : Ck) : controlC v x c = none := by
  unfold controlC
  rw [if_neg (by omega), if_neg (by omega), if_neg (by omega), if_neg (by omega), if_neg (by omega), if_neg (by omega), if_neg (by omega), if_neg (by omega), if_neg (by omega)]
def sig (o : Int) : Option (List UInt8 × List UInt8 × Int) := (opInfo o).map fun i => (i.params.data.toList, i.results.data.toList, i.shape)
theorem step_dflt {v : Vn} {x : InsL} {ps rs : List UInt8} {sh : Int} (h : dflt x.op) (hs : sig x.op = some (ps, rs, sh)) (c : Ck) :
    stepC v x c = putC rs (takeC ps (wantC (wantC c (!v.m.memory.isEmpty || (sh != 5 && sh != 6))) (sh != 5 || decide (x.a ≤ reachOf x.op)))) := by
  unfold stepC
  rw [control_dflt h]
  unfold dflt at h
  unfold sig at hs
  rw [Option.map_eq_some_iff] at hs
  obtain ⟨i, hi, he⟩ := hs
  simp only [Prod.mk.injEq] at he
  obtain ⟨rfl, rfl, rfl⟩ := he
  dsimp only
  rw [if_neg (by omega), if_neg (by omega), if_neg (by omega), if_neg (by omega), if_neg (by omega), if_neg (by omega), if_neg (by omega), if_neg (by omega), hi]
theorem eff_sig {v : Vn} {x : InsL} {ps rs : List UInt8} {sh : Int} (h : dflt x.op) (hs : sig x.op = some (ps, rs, sh)) (hm : (sh ≠ 5 ∧ sh ≠ 6) ∨ v.m.memory ≠ []) (ha : sh ≠ 5 ∨ x.a ≤ reachOf x.op) : Eff v x ps rs := by
  intro st fs f hf hh
  have h1 : (!v.m.memory.isEmpty || (sh != 5 && sh != 6)) = true := by
    rcases hm with ⟨h1, h2⟩ | h1
    · simp [h1, h2]
    · simp [h1]
  have h2 : (sh != 5 || decide (x.a ≤ reachOf x.op)) = true := by
    rcases ha with h1 | h1
    · simp [h1]
    · simp [h1]
  rw [step_dflt h hs, want_true h1, want_true h2, take_eq hf hh]
  rfl
theorem step_32 {v : Vn} {x : InsL} (h : x.op = 32) (c : Ck) : stepC v x c = putC (localC v x.a.toNat c).2 (localC v x.a.toNat c).1 := by
  unfold stepC
  rw [control_none (by omega)]
  dsimp only
  rw [if_neg (by omega), if_neg (by omega), if_neg (by omega), if_pos h]
theorem step_33 {v : Vn} {x : InsL} (h : x.op = 33) (c : Ck) : stepC v x c = takeC (localC v x.a.toNat c).2 (localC v x.a.toNat c).1 := by
  unfold stepC
  rw [control_none (by omega)]
  dsimp only
  rw [if_neg (by omega), if_neg (by omega), if_neg (by omega), if_neg (by omega), if_pos h]
theorem step_34 {v : Vn} {x : InsL} (h : x.op = 34) (c : Ck) : stepC v x c = putC (localC v x.a.toNat c).2 (takeC (localC v x.a.toNat c).2 (localC v x.a.toNat c).1) := by
  unfold stepC
  rw [control_none (by omega)]
  dsimp only
  rw [if_neg (by omega), if_neg (by omega), if_neg (by omega), if_neg (by omega), if_neg (by omega), if_pos h]
theorem step_35 {v : Vn} {x : InsL} (h : x.op = 35) (c : Ck) : stepC v x c = putC (globalC v x.a.toNat false c).2 (globalC v x.a.toNat false c).1 := by
  unfold stepC
  rw [control_none (by omega)]
  dsimp only
  rw [if_neg (by omega), if_neg (by omega), if_neg (by omega), if_neg (by omega), if_neg (by omega), if_neg (by omega), if_pos h]
theorem step_36 {v : Vn} {x : InsL} (h : x.op = 36) (c : Ck) : stepC v x c = takeC (globalC v x.a.toNat true c).2 (globalC v x.a.toNat true c).1 := by
  unfold stepC
  rw [control_none (by omega)]
  dsimp only
  rw [if_neg (by omega), if_neg (by omega), if_neg (by omega), if_neg (by omega), if_neg (by omega), if_neg (by omega), if_neg (by omega), if_pos h]
theorem step_26 {v : Vn} {x : InsL} (h : x.op = 26) (c : Ck) : stepC v x c = (popC c).1 := by
  unfold stepC
  rw [control_none (by omega)]
  dsimp only
  rw [if_neg (by omega), if_pos h]
theorem local_eq {v : Vn} {n : Nat} {b : UInt8} (h : v.locals[n]? = some b) (c : Ck) : localC v n c = (c, [b]) := by
  unfold localC
  rw [h]
  rfl
theorem global_eq {v : Vn} {n : Nat} {g : GlobP} (h : v.m.globals[n]? = some g) {set : Bool} (hs : (g.mut_ || !set) = true) (c : Ck) : globalC v n set c = (c, [UInt8.ofNat (g.ty % 256).toNat]) := by
  unfold globalC
  rw [h]
  show (wantC c (g.mut_ || !set), _) = _
  rw [want_true hs]
theorem eff_get {v : Vn} {x : InsL} {b : UInt8} (ho : x.op = 32) (h : v.locals[x.a.toNat]? = some b) : Eff v x [] [b] := by
  intro st fs f hf hh
  rw [step_32 ho, local_eq h]
  simp [putC]
theorem eff_set {v : Vn} {x : InsL} {b : UInt8} (ho : x.op = 33) (h : v.locals[x.a.toNat]? = some b) : Eff v x [b] [] := by
  intro st fs f hf hh
  rw [step_33 ho, local_eq h, take_eq hf hh, List.append_nil]
theorem eff_tee {v : Vn} {x : InsL} {b : UInt8} (ho : x.op = 34) (h : v.locals[x.a.toNat]? = some b) : Eff v x [b] [b] := by
  intro st fs f hf hh
  rw [step_34 ho, local_eq h, take_eq hf hh]
  rfl
theorem eff_gget {v : Vn} {x : InsL} {g : GlobP} (ho : x.op = 35) (h : v.m.globals[x.a.toNat]? = some g) : Eff v x [] [UInt8.ofNat (g.ty % 256).toNat] := by
  intro st fs f hf hh
  rw [step_35 ho, global_eq h (by simp)]
  simp [putC]
theorem eff_gset {v : Vn} {x : InsL} {g : GlobP} (ho : x.op = 36) (h : v.m.globals[x.a.toNat]? = some g) (hm : g.mut_ = true) : Eff v x [UInt8.ofNat (g.ty % 256).toNat] [] := by
  intro st fs f hf hh
  rw [step_36 ho, global_eq h (by simp [hm]), take_eq hf hh, List.append_nil]
theorem eff_drop {v : Vn} {x : InsL} (ho : x.op = 26) (t : UInt8) : Eff v x [t] [] := by
  intro st fs f hf hh
  rw [step_26 ho, pop_eq hf hh, List.append_nil]
theorem step_brif {v : Vn} {x : InsL} (ho : x.op = 13) {st : List UInt8} {fs : List Fr} {f : Fr} (hf : fs.getLast? = some f) (hh : f.height ≤ st.length) (hl : labelL fs x.a.toNat = some []) : stepC v x ⟨st ++ [127], fs, false⟩ = ⟨st, fs, false⟩ := by
  unfold stepC controlC
  rw [if_neg (by omega), if_neg (by omega), if_neg (by omega), if_neg (by omega), if_neg (by omega), if_neg (by omega), if_pos ho, take_eq hf hh]
  unfold labelC
  dsimp only
  rw [hl]
  simp [orBad, putC, takeC, takeR]
theorem step_open {v : Vn} {x : InsL} (ho : x.op = 2 ∨ x.op = 3) (c : Ck) : stepC v x c = openC x.op x.a c := by
  unfold stepC controlC
  rw [if_neg (by omega), if_pos ho]
theorem step_if {v : Vn} {x : InsL} (ho : x.op = 4) (c : Ck) : stepC v x c = openC 4 x.a (takeC [127] c) := by
  unfold stepC controlC
  rw [if_neg (by omega), if_neg (by omega), if_pos ho]
theorem getLast_snoc {α : Type} (l : List α) (x : α) : (l ++ [x]).getLast? = some x := by simp
theorem shut_eq {st : List UInt8} {fs : List Fr} {f : Fr} (hh : f.height = st.length) : shutC f ⟨st ++ f.result, fs ++ [f], false⟩ = ⟨st, fs ++ [f], false⟩ := by
  unfold shutC
  rw [take_eq (getLast_snoc fs f) (by omega)]
  simp [wantC, hh]
theorem step_else {v : Vn} {x : InsL} (ho : x.op = 5) {st : List UInt8} {fs : List Fr} {f : Fr} (hh : f.height = st.length) : stepC v x ⟨st ++ f.result, fs ++ [f], false⟩ = ⟨st, fs ++ [{ f with op := 5, dead := false }], false⟩ := by
  unfold stepC controlC
  rw [if_neg (by omega), if_neg (by omega), if_neg (by omega), if_pos ho]
  simp only [getLast_snoc, shut_eq hh]
  simp [setTop]
theorem step_end {v : Vn} {x : InsL} (ho : x.op = 11) {st : List UInt8} {fs : List Fr} {f : Fr} (hh : f.height = st.length) (h4 : (f.op != 4 || f.result.isEmpty) = true) : stepC v x ⟨st ++ f.result, fs ++ [f], false⟩ = ⟨st ++ f.result, fs, false⟩ := by
  unfold stepC controlC
  rw [if_neg (by omega), if_neg (by omega), if_neg (by omega), if_neg (by omega), if_pos ho]
  simp only [getLast_snoc, shut_eq hh, want_true h4]
  simp [putC]
end Go.Proofs.YthcjgdmmpopplaaGreatDoor.Vld

/- VldMade: A program that made makes goes through the checker, with just the stack that made had. Plain: no program in sight. -/
namespace Go.Proofs.YthcjgdmmpopplaaGreatDoor.Vld
open Go.RowKit Go.Proofs.YthcjgdmmpopplaaGreatDoor.Op Go.Proofs.YthcjgdmmpopplaaGreatDoor.Mod
set_option linter.unusedVariables false
def stB (l : List Nat) : List UInt8 := l.map UInt8.ofNat
def baseF : Fr := ⟨0, [126], 0, false⟩
def toFr (b : Pg.Opn) : Fr := ⟨b.op, kindL b.res, b.height, false⟩
def frs (l : List Pg.Opn) : List Fr := baseF :: l.map toFr
def ckOf (s : Pg.St) : Ck := ⟨stB s.stack, frs s.opens, false⟩
def topFr (l : List Pg.Opn) : Fr := (l.getLast?.map toFr).getD baseF
theorem frs_last (l : List Pg.Opn) : (frs l).getLast? = some (topFr l) := by
  unfold frs topFr
  rcases List.eq_nil_or_concat l with rfl | ⟨l0, b, rfl⟩
  · rfl
  · rw [List.concat_eq_append, List.map_append, List.map_singleton, ← List.cons_append, List.getLast?_concat, List.getLast?_concat]
    rfl
theorem topFr_height (s : Pg.St) : (topFr s.opens).height = Pg.topH s := by
  unfold topFr Pg.topH
  cases s.opens.getLast? with
  | none => rfl
  | some b => rfl
theorem stB_append (a b : List Nat) : stB (a ++ b) = stB a ++ stB b := by simp [stB]
theorem stB_length (a : List Nat) : (stB a).length = a.length := by simp [stB]
/-- what such a program is checked against -/
structure MadeV (v : Vn) : Prop where
  locals : v.locals = [126, 127, 127, 126]
  result : v.result = [126]
  g0 : v.m.globals[0]? = some ⟨127, true, 5⟩
  g1 : v.m.globals[1]? = some ⟨126, true, -5⟩
  mem : v.m.memory ≠ []
/-- made goes on, and the checker with it -/
def Steps (v : Vn) (s s' : Pg.St) : Prop := ∃ l, s'.code = s.code ++ l ∧ Goes v l (ckOf s) (ckOf s')
theorem Steps.refl (v : Vn) (s : Pg.St) : Steps v s s := ⟨[], by simp, Goes.nil _ _⟩
theorem Steps.trans {v : Vn} {a b c : Pg.St} (h : Steps v a b) (k : Steps v b c) : Steps v a c := by
  obtain ⟨l, h1, h2⟩ := h
  obtain ⟨m, k1, k2⟩ := k
  exact ⟨l ++ m, by rw [k1, h1, List.append_assoc], h2.trans k2⟩
theorem Steps.eff {v : Vn} {s s' : Pg.St} {x : Pg.Ins} {ps rs : List UInt8} {st p r : List Nat} (he : Eff v (tL x) ps rs) (hp : stB p = ps) (hr : stB r = rs) (h1 : s.stack = st ++ p) (h2 : s'.stack = st ++ r) (hc : s'.code = s.code ++ [x]) (ho : s'.opens = s.opens) (ht : Pg.topH s ≤ st.length) : Steps v s s' := by
  refine ⟨[x], hc, Goes.one ?_ rfl⟩
  unfold ckOf
  rw [h1, h2, ho, stB_append, stB_append, hp, hr]
  exact he _ _ _ (frs_last _) (by rw [topFr_height, stB_length]; exact ht)
theorem want_form {s : Pg.St} {n : Nat} (h : Pg.Inv s n) (k : Nat) : ∃ st, (Pg.wantP s k).stack = st ++ [k] ∧ Pg.topH (Pg.wantP s k) ≤ st.length := by
  have h1 := Pg.want_last (s := s) (k := k)
  have h2 := Pg.has_want h k
  rcases List.eq_nil_or_concat (Pg.wantP s k).stack with he | ⟨l0, b, he⟩
  · rw [he] at h1; cases h1
  · rw [List.concat_eq_append] at he
    rw [he] at h1
    simp at h1
    subst h1
    refine ⟨l0, he, ?_⟩
    unfold Pg.hasP at h2
    rw [he] at h2
    simp at h2
    omega
theorem sigs : ([(1, [], [], 0), (65, [], [127], 7), (66, [], [126], 7), (69, [127], [127], 0), (80, [126], [127], 0), (167, [126], [127], 0), (173, [127], [126], 0), (40, [127], [127], 5), (60, [127, 126], [], 5), (61, [127, 126], [], 5), (62, [127, 126], [], 5), (63, [], [127], 6), (64, [127], [127], 6)] : List (Int × List UInt8 × List UInt8 × Int)).all (fun e => sig e.1 == some e.2) = true := by kernel_rfl
theorem sig_of {o : Int} {e : List UInt8 × List UInt8 × Int} (h : (o, e) ∈ ([(1, [], [], 0), (65, [], [127], 7), (66, [], [126], 7), (69, [127], [127], 0), (80, [126], [127], 0), (167, [126], [127], 0), (173, [127], [126], 0), (40, [127], [127], 5), (60, [127, 126], [], 5), (61, [127, 126], [], 5), (62, [127, 126], [], 5), (63, [], [127], 6), (64, [127], [127], 6)] : List (Int × List UInt8 × List UInt8 × Int))) : sig o = some e :=
  eq_of_beq (List.all_eq_true.1 sigs _ h)
theorem sig32 : ((List.range 15).all fun k => sig (106 + (k : Int)) == some ([127, 127], [127], 0)) = true := by kernel_rfl
theorem sig64 : ((List.range 15).all fun k => sig (124 + (k : Int)) == some ([126, 126], [126], 0)) = true := by kernel_rfl
theorem sg1 : sig 1 = some ([], [], 0) := sig_of (by simp)
theorem ef1 (v : Vn) {x : Pg.Ins} (h : x.op = 1) : Eff v (tL x) [] [] := eff_sig (sh := 0) (show dflt x.op by rw [h]; unfold dflt; decide) (show sig x.op = _ by rw [h]; exact sg1) (.inl (by decide)) (.inl (by decide))
theorem sg65 : sig 65 = some ([], [127], 7) := sig_of (by simp)
theorem ef65 (v : Vn) {x : Pg.Ins} (h : x.op = 65) : Eff v (tL x) [] [127] := eff_sig (sh := 7) (show dflt x.op by rw [h]; unfold dflt; decide) (show sig x.op = _ by rw [h]; exact sg65) (.inl (by decide)) (.inl (by decide))
theorem sg66 : sig 66 = some ([], [126], 7) := sig_of (by simp)
theorem ef66 (v : Vn) {x : Pg.Ins} (h : x.op = 66) : Eff v (tL x) [] [126] := eff_sig (sh := 7) (show dflt x.op by rw [h]; unfold dflt; decide) (show sig x.op = _ by rw [h]; exact sg66) (.inl (by decide)) (.inl (by decide))
theorem sg69 : sig 69 = some ([127], [127], 0) := sig_of (by simp)
theorem ef69 (v : Vn) {x : Pg.Ins} (h : x.op = 69) : Eff v (tL x) [127] [127] := eff_sig (sh := 0) (show dflt x.op by rw [h]; unfold dflt; decide) (show sig x.op = _ by rw [h]; exact sg69) (.inl (by decide)) (.inl (by decide))
theorem sg80 : sig 80 = some ([126], [127], 0) := sig_of (by simp)
theorem ef80 (v : Vn) {x : Pg.Ins} (h : x.op = 80) : Eff v (tL x) [126] [127] := eff_sig (sh := 0) (show dflt x.op by rw [h]; unfold dflt; decide) (show sig x.op = _ by rw [h]; exact sg80) (.inl (by decide)) (.inl (by decide))
theorem sg167 : sig 167 = some ([126], [127], 0) := sig_of (by simp)
theorem ef167 (v : Vn) {x : Pg.Ins} (h : x.op = 167) : Eff v (tL x) [126] [127] := eff_sig (sh := 0) (show dflt x.op by rw [h]; unfold dflt; decide) (show sig x.op = _ by rw [h]; exact sg167) (.inl (by decide)) (.inl (by decide))
theorem sg173 : sig 173 = some ([127], [126], 0) := sig_of (by simp)
theorem ef173 (v : Vn) {x : Pg.Ins} (h : x.op = 173) : Eff v (tL x) [127] [126] := eff_sig (sh := 0) (show dflt x.op by rw [h]; unfold dflt; decide) (show sig x.op = _ by rw [h]; exact sg173) (.inl (by decide)) (.inl (by decide))
theorem sg40 : sig 40 = some ([127], [127], 5) := sig_of (by simp)
theorem ef40 {v : Vn} (hV : MadeV v) {x : Pg.Ins} (h : x.op = 40) (ha : x.a ≤ reachOf 40) : Eff v (tL x) [127] [127] := eff_sig (sh := 5) (show dflt x.op by rw [h]; unfold dflt; decide) (show sig x.op = _ by rw [h]; exact sg40) (.inr hV.mem) (.inr (by show x.a ≤ reachOf x.op; rw [h]; exact ha))
theorem sg60 : sig 60 = some ([127, 126], [], 5) := sig_of (by simp)
theorem ef60 {v : Vn} (hV : MadeV v) {x : Pg.Ins} (h : x.op = 60) (ha : x.a ≤ reachOf 60) : Eff v (tL x) [127, 126] [] := eff_sig (sh := 5) (show dflt x.op by rw [h]; unfold dflt; decide) (show sig x.op = _ by rw [h]; exact sg60) (.inr hV.mem) (.inr (by show x.a ≤ reachOf x.op; rw [h]; exact ha))
theorem sg61 : sig 61 = some ([127, 126], [], 5) := sig_of (by simp)
theorem ef61 {v : Vn} (hV : MadeV v) {x : Pg.Ins} (h : x.op = 61) (ha : x.a ≤ reachOf 61) : Eff v (tL x) [127, 126] [] := eff_sig (sh := 5) (show dflt x.op by rw [h]; unfold dflt; decide) (show sig x.op = _ by rw [h]; exact sg61) (.inr hV.mem) (.inr (by show x.a ≤ reachOf x.op; rw [h]; exact ha))
theorem sg62 : sig 62 = some ([127, 126], [], 5) := sig_of (by simp)
theorem ef62 {v : Vn} (hV : MadeV v) {x : Pg.Ins} (h : x.op = 62) (ha : x.a ≤ reachOf 62) : Eff v (tL x) [127, 126] [] := eff_sig (sh := 5) (show dflt x.op by rw [h]; unfold dflt; decide) (show sig x.op = _ by rw [h]; exact sg62) (.inr hV.mem) (.inr (by show x.a ≤ reachOf x.op; rw [h]; exact ha))
theorem sg63 : sig 63 = some ([], [127], 6) := sig_of (by simp)
theorem ef63 {v : Vn} (hV : MadeV v) {x : Pg.Ins} (h : x.op = 63) : Eff v (tL x) [] [127] := eff_sig (sh := 6) (show dflt x.op by rw [h]; unfold dflt; decide) (show sig x.op = _ by rw [h]; exact sg63) (.inr hV.mem) (.inl (by decide))
theorem sg64 : sig 64 = some ([127], [127], 6) := sig_of (by simp)
theorem ef64 {v : Vn} (hV : MadeV v) {x : Pg.Ins} (h : x.op = 64) : Eff v (tL x) [127] [127] := eff_sig (sh := 6) (show dflt x.op by rw [h]; unfold dflt; decide) (show sig x.op = _ by rw [h]; exact sg64) (.inr hV.mem) (.inl (by decide))
theorem ef32 (v : Vn) {x : Pg.Ins} {j : Nat} (hj : j < 15) (h : x.op = 106 + (j : Int)) : Eff v (tL x) [127, 127] [127] :=
  eff_sig (sh := 0) (show dflt x.op by rw [h]; unfold dflt; omega) (show sig x.op = _ by rw [h]; exact eq_of_beq (List.all_eq_true.1 sig32 j (by simpa using hj))) (.inl (by decide)) (.inl (by decide))
theorem ef64' (v : Vn) {x : Pg.Ins} {j : Nat} (hj : j < 15) (h : x.op = 124 + (j : Int)) : Eff v (tL x) [126, 126] [126] :=
  eff_sig (sh := 0) (show dflt x.op by rw [h]; unfold dflt; omega) (show sig x.op = _ by rw [h]; exact eq_of_beq (List.all_eq_true.1 sig64 j (by simpa using hj))) (.inl (by decide)) (.inl (by decide))
theorem go_want {v : Vn} (hV : MadeV v) {s : Pg.St} {n : Nat} (h : Pg.Inv s n) {k : Nat} (hk : k = 126 ∨ k = 127) : Steps v s (Pg.wantP s k) := by
  have ht := h.top_le
  unfold Pg.wantP
  by_cases h0 : Pg.hasP s = 0
  · rw [if_pos h0]
    rcases hk with rfl | rfl
    · exact Steps.eff (st := s.stack) (p := []) (r := [126]) (ef66 v (by first | rfl | decide)) rfl rfl (by simp) rfl rfl rfl ht
    · exact Steps.eff (st := s.stack) (p := []) (r := [127]) (ef65 v (by first | rfl | decide)) rfl rfl (by simp) rfl rfl rfl ht
  · rw [if_neg h0]
    by_cases h1 : s.stack.getLast? = some k
    · rw [if_pos h1]; exact Steps.refl _ _
    · rw [if_neg h1]
      have hpos : 0 < s.stack.length := by unfold Pg.hasP at h0; omega
      rcases List.eq_nil_or_concat s.stack with he | ⟨l0, b, he⟩
      · rw [he] at hpos; simp at hpos
      · rw [List.concat_eq_append] at he
        have hb : b = 126 ∨ b = 127 := h.ks b (by rw [he]; simp)
        have hne : b ≠ k := by rintro rfl; rw [he] at h1; simp at h1
        have hl : Pg.topH s ≤ l0.length := by unfold Pg.hasP at h0; rw [he] at h0; simp at h0; omega
        rcases hk with rfl | rfl
        · obtain rfl : b = 127 := by omega
          exact Steps.eff (st := l0) (p := [127]) (r := [126]) (ef173 v (by first | rfl | decide)) rfl rfl he (by simp [he]) rfl rfl hl
        · obtain rfl : b = 126 := by omega
          exact Steps.eff (st := l0) (p := [126]) (r := [127]) (ef167 v (by first | rfl | decide)) rfl rfl he (by simp [he]) rfl rfl hl
theorem go_ready {v : Vn} (hV : MadeV v) {s : Pg.St} {n : Nat} (h : Pg.Inv s n) {b : Pg.Opn} (hb : b.res = 64 ∨ b.res = 126 ∨ b.res = 127) : Steps v s (Pg.readyP s b) := by
  unfold Pg.readyP
  split
  · exact Steps.refl _ _
  · exact go_want hV h (by omega)
theorem local_at {v : Vn} (hV : MadeV v) {r : Nat} (hr : r = 126 ∨ r = 127) : v.locals[(129 - (r : Int)).toNat]? = some (UInt8.ofNat r) := by
  rw [hV.locals]
  rcases hr with rfl | rfl <;> rfl
theorem stkS_succ64 {s : Pg.St} {b : Pg.Opn} {j : Nat} (h : b.res = 64) (hj : j + 1 ≤ (Pg.readyP s b).stack.length) : ∃ t, Pg.stkS s b j = Pg.stkS s b (j + 1) ++ [t] := by
  unfold Pg.stkS
  rw [if_pos h, if_pos h]
  refine ⟨(Pg.readyP s b).stack[(Pg.readyP s b).stack.length - (j + 1)]'(by omega), ?_⟩
  rw [show (Pg.readyP s b).stack.length - j = (Pg.readyP s b).stack.length - (j + 1) + 1 by omega, List.take_add_one, List.getElem?_eq_getElem (by omega)]
  rfl
theorem take_succ' (l : List Nat) (m : Nat) (hm : m < l.length) : ∃ t, l.take (m + 1) = l.take m ++ [t] := by
  refine ⟨l[m], ?_⟩
  rw [List.take_add_one, List.getElem?_eq_getElem hm]
  rfl
theorem go_levels {v : Vn} (hV : MadeV v) {s : Pg.St} {n : Nat} (h : Pg.Inv s n) {b : Pg.Opn} (hb : b.res = 64 ∨ b.res = 126 ∨ b.res = 127) : ∀ j, j + Pg.manyP b ≤ Pg.hasP (Pg.readyP s b) → Steps v (Pg.readyP s b) (Pg.levelS s b j)
  | 0, _ => by rw [Pg.levelS_zero]; exact Steps.refl _ _
  | j + 1, hj => by
    refine (go_levels hV h hb j (by omega)).trans ?_
    have htr : Pg.topH (Pg.readyP s b) = Pg.topH s := Pg.ready_top s b
    have hth : ∀ i, Pg.topH (Pg.levelS s b i) = Pg.topH s := fun i => by unfold Pg.topH Pg.levelS; rw [Pg.ready_opens]
    have hhas : j + 1 + Pg.manyP b + Pg.topH s ≤ (Pg.readyP s b).stack.length := by
      unfold Pg.hasP at hj
      rw [htr] at hj
      have : 0 < Pg.manyP b ∨ Pg.manyP b = 0 := by omega
      omega
    have hcode : (Pg.levelS s b (j + 1)).code = (Pg.levelS s b j).code ++ Pg.dropI b.res := by
      show (Pg.readyP s b).code ++ _ = ((Pg.readyP s b).code ++ _) ++ _
      rw [Pg.replicate_flat, List.append_assoc]
    by_cases h64 : b.res = 64
    · have hm : Pg.manyP b = 0 := by unfold Pg.manyP; rw [if_pos h64]
      obtain ⟨t, ht⟩ := stkS_succ64 (s := s) h64 (j := j) (by omega)
      have hd : Pg.dropI b.res = [⟨26, 0, 0⟩] := by unfold Pg.dropI; rw [if_pos h64]
      rw [hd] at hcode
      have hlen : (Pg.stkS s b (j + 1)).length = (Pg.readyP s b).stack.length - (j + 1) := Pg.stkS_len (by omega)
      exact Steps.eff (st := Pg.stkS s b (j + 1)) (p := [t]) (r := []) (eff_drop (by rfl) (UInt8.ofNat t)) rfl rfl ht (by simp [Pg.levelS]) hcode rfl (by rw [hth]; omega)
    · have hm : Pg.manyP b = 1 := by unfold Pg.manyP; rw [if_neg h64]
      have hd : Pg.dropI b.res = [⟨33, 129 - (b.res : Int), 0⟩] ++ [⟨26, 0, 0⟩] ++ [⟨32, 129 - (b.res : Int), 0⟩] := by unfold Pg.dropI; rw [if_neg h64]; rfl
      rw [hd] at hcode
      have hr : b.res = 126 ∨ b.res = 127 := by omega
      have e0 : (Pg.levelS s b j).stack = (Pg.readyP s b).stack.take ((Pg.readyP s b).stack.length - 1 - j) ++ [b.res] := by
        show Pg.stkS s b j = _
        unfold Pg.stkS
        rw [if_neg h64]
      have e1 : (Pg.levelS s b (j + 1)).stack = (Pg.readyP s b).stack.take ((Pg.readyP s b).stack.length - 1 - (j + 1)) ++ [b.res] := by
        show Pg.stkS s b (j + 1) = _
        unfold Pg.stkS
        rw [if_neg h64]
      obtain ⟨t, ht⟩ := take_succ' (Pg.readyP s b).stack ((Pg.readyP s b).stack.length - 1 - (j + 1)) (by omega)
      rw [show (Pg.readyP s b).stack.length - 1 - (j + 1) + 1 = (Pg.readyP s b).stack.length - 1 - j by omega] at ht
      have hl0 : ((Pg.readyP s b).stack.take ((Pg.readyP s b).stack.length - 1 - j)).length = (Pg.readyP s b).stack.length - 1 - j := by rw [List.length_take]; omega
      have hl1 : ((Pg.readyP s b).stack.take ((Pg.readyP s b).stack.length - 1 - (j + 1))).length = (Pg.readyP s b).stack.length - 1 - (j + 1) := by rw [List.length_take]; omega
      refine Steps.trans (b := { Pg.levelS s b j with code := (Pg.levelS s b j).code ++ [⟨33, 129 - (b.res : Int), 0⟩], stack := (Pg.readyP s b).stack.take ((Pg.readyP s b).stack.length - 1 - j) }) ?_ (Steps.trans (b := { Pg.levelS s b j with code := (Pg.levelS s b j).code ++ [⟨33, 129 - (b.res : Int), 0⟩] ++ [⟨26, 0, 0⟩], stack := (Pg.readyP s b).stack.take ((Pg.readyP s b).stack.length - 1 - (j + 1)) }) ?_ ?_)
      · exact Steps.eff (st := (Pg.readyP s b).stack.take ((Pg.readyP s b).stack.length - 1 - j)) (p := [b.res]) (r := []) (eff_set (by rfl) (by exact local_at hV hr)) rfl rfl e0 (by simp) rfl rfl (by rw [hth]; omega)
      · refine Steps.eff (st := (Pg.readyP s b).stack.take ((Pg.readyP s b).stack.length - 1 - (j + 1))) (p := [t]) (r := []) (eff_drop (by rfl) (UInt8.ofNat t)) rfl rfl ht (by simp) rfl rfl ?_
        show Pg.topH (Pg.levelS s b j) ≤ _
        rw [hth]; omega
      · refine Steps.eff (st := (Pg.readyP s b).stack.take ((Pg.readyP s b).stack.length - 1 - (j + 1))) (p := []) (r := [b.res]) (x := ⟨32, 129 - (b.res : Int), 0⟩) (eff_get (by rfl) (by exact local_at hV hr)) rfl rfl (by simp) e1 ?_ rfl ?_
        · rw [hcode]
          simp
        · show Pg.topH (Pg.levelS s b j) ≤ _
          rw [hth]; omega
/-- to a block's end: what stands there is its result -/
theorem go_level {v : Vn} (hV : MadeV v) {s : Pg.St} {n : Nat} (h : Pg.Inv s n) {b : Pg.Opn} (hb : b.res = 64 ∨ b.res = 126 ∨ b.res = 127) (hh : b.height = Pg.topH s) :
    ∃ l, (Pg.levelP s b).code = s.code ++ l ∧ Goes v l (ckOf s) ⟨stB (Pg.levelP s b).stack ++ kindL b.res, frs s.opens, false⟩ := by
  have hr := h.ready hb
  have hm := Pg.many_le h b
  have htop := hr.top_le
  rw [Pg.ready_top] at htop
  have hj2 : Pg.hasP (Pg.readyP s b) - Pg.manyP b + Pg.manyP b ≤ (Pg.readyP s b).stack.length := by unfold Pg.hasP at hm ⊢; omega
  obtain ⟨l, h1, h2⟩ := (go_ready hV h hb).trans (go_levels hV h hb (Pg.hasP (Pg.readyP s b) - Pg.manyP b) (by omega))
  refine ⟨l, h1, ?_⟩
  have e1 : stB (Pg.levelS s b (Pg.hasP (Pg.readyP s b) - Pg.manyP b)).stack = stB (Pg.levelP s b).stack ++ kindL b.res := by
    show stB (Pg.stkS s b _) = stB ((Pg.readyP s b).stack.take b.height) ++ _
    have hhas : Pg.hasP (Pg.readyP s b) = (Pg.readyP s b).stack.length - Pg.topH s := by unfold Pg.hasP; rw [Pg.ready_top]
    unfold Pg.stkS
    by_cases h64 : b.res = 64
    · rw [if_pos h64, h64]
      have hm0 : Pg.manyP b = 0 := by unfold Pg.manyP; rw [if_pos h64]
      rw [hm0, hhas, hh, show kindL ((64 : Nat) : Int) = [] from rfl, List.append_nil]
      congr 2
      omega
    · rw [if_neg h64]
      have hm1 : Pg.manyP b = 1 := by unfold Pg.manyP; rw [if_neg h64]
      rw [hm1] at hm ⊢
      rw [hhas] at hm ⊢
      rw [hh, stB_append, show (Pg.readyP s b).stack.length - 1 - ((Pg.readyP s b).stack.length - Pg.topH s - 1) = Pg.topH s by omega]
      congr 1
      rcases (show b.res = 126 ∨ b.res = 127 by omega) with e | e <;> (rw [e]; rfl)
  have e2 : ckOf (Pg.levelS s b (Pg.hasP (Pg.readyP s b) - Pg.manyP b)) = ⟨stB (Pg.levelP s b).stack ++ kindL b.res, frs s.opens, false⟩ := by
    unfold ckOf
    rw [e1]
    show (⟨_, frs (Pg.readyP s b).opens, false⟩ : Ck) = _
    rw [Pg.ready_opens]
  rw [e2] at h2
  exact h2
theorem frs_snoc {l : List Pg.Opn} {b : Pg.Opn} (h : l.getLast? = some b) : frs l = frs l.dropLast ++ [toFr b] := by
  rcases List.eq_nil_or_concat l with rfl | ⟨l0, z, rfl⟩
  · cases h
  · rw [List.concat_eq_append] at h ⊢
    simp at h
    subst h
    simp [frs]
/-- an if answers nothing -/
def Ifs (s : Pg.St) : Prop := ∀ b ∈ s.opens, b.op = 4 → b.res = 64
theorem go_shut {v : Vn} (hV : MadeV v) {s : Pg.St} {n : Nat} (h : Pg.Inv s n) (hi : Ifs s) {b : Pg.Opn} (hb : s.opens.getLast? = some b) : Steps v s (Pg.shutP s b) := by
  have hm := Pg.last_mem hb
  obtain ⟨o1, o2⟩ := h.os b hm
  obtain ⟨l, h1, h2⟩ := go_level hV h o2 (Pg.top_of hb).symm
  obtain ⟨_, h3⟩ := Pg.level_size h o2 (Pg.top_of hb).symm
  rw [frs_snoc hb] at h2
  have he : stepC v (tL ⟨11, 0, 0⟩) ⟨stB (Pg.levelP s b).stack ++ (toFr b).result, frs s.opens.dropLast ++ [toFr b], false⟩ = ⟨stB (Pg.levelP s b).stack ++ (toFr b).result, frs s.opens.dropLast, false⟩ := by
    refine step_end rfl (by rw [stB_length, h3]; rfl) ?_
    show (b.op != 4 || (kindL b.res).isEmpty) = true
    by_cases h4 : b.op = 4
    · rw [hi b hm h4]; simp [kindL]
    · simp [h4]
  have h5 := h2.trans (Goes.one he rfl)
  refine ⟨l ++ [⟨11, 0, 0⟩], ?_, ?_⟩
  · unfold Pg.shutP
    dsimp only
    split
    · show (Pg.levelP s b).code ++ _ = _
      rw [h1, List.append_assoc]
    · show (Pg.levelP s b).code ++ _ = _
      rw [h1, List.append_assoc]
  · have e : ckOf (Pg.shutP s b) = ⟨stB (Pg.levelP s b).stack ++ (toFr b).result, frs s.opens.dropLast, false⟩ := by
      unfold Pg.shutP ckOf
      dsimp only
      split
      · rename_i h64
        show (⟨stB (Pg.levelP s b).stack, frs (Pg.levelP s b).opens.dropLast, false⟩ : Ck) = ⟨_ ++ kindL b.res, _, _⟩
        rw [Pg.level_opens, h64, show kindL ((64 : Nat) : Int) = [] from rfl, List.append_nil]
      · rename_i h64
        show (⟨stB ((Pg.levelP s b).stack ++ [b.res]), frs (Pg.levelP s b).opens.dropLast, false⟩ : Ck) = ⟨_ ++ kindL b.res, _, _⟩
        rw [Pg.level_opens, stB_append]
        congr 2
        rcases (show b.res = 126 ∨ b.res = 127 by omega) with e | e <;> (rw [e]; rfl)
    rw [e]
    exact h5
theorem go_else {v : Vn} (hV : MadeV v) {s : Pg.St} {n : Nat} (h : Pg.Inv s n) (hi : Ifs s) {b : Pg.Opn} (hb : s.opens.getLast? = some b) (h4 : b.op = 4) : Steps v s (Pg.elseP s b) := by
  have hm := Pg.last_mem hb
  have h64 := hi b hm h4
  obtain ⟨l, h1, h2⟩ := go_level hV h (.inl h64) (Pg.top_of hb).symm
  obtain ⟨_, h3⟩ := Pg.level_size h (.inl h64) (Pg.top_of hb).symm
  rw [frs_snoc hb] at h2
  have he : stepC v (tL ⟨5, 0, 0⟩) ⟨stB (Pg.levelP s b).stack ++ (toFr b).result, frs s.opens.dropLast ++ [toFr b], false⟩ = ⟨stB (Pg.levelP s b).stack, frs s.opens.dropLast ++ [{ toFr b with op := 5, dead := false }], false⟩ :=
    step_else rfl (by rw [stB_length, h3]; rfl)
  have h5 := h2.trans (Goes.one he rfl)
  refine ⟨l ++ [⟨5, 0, 0⟩], ?_, ?_⟩
  · show (Pg.levelP s b).code ++ _ = _
    rw [h1, List.append_assoc]
  · have e : ckOf (Pg.elseP s b) = ⟨stB (Pg.levelP s b).stack, frs s.opens.dropLast ++ [{ toFr b with op := 5, dead := false }], false⟩ := by
      unfold Pg.elseP ckOf
      dsimp only
      rw [Pg.level_opens]
      simp [frs, toFr]
    rw [e]
    exact h5
theorem go_opens {v : Vn} {s : Pg.St} {o : Int} {r : Nat} (ho : o = 2 ∨ o = 3) : Steps v s (Pg.opensP s o r) := by
  refine ⟨[⟨o, r, 0⟩], rfl, Goes.one ?_ rfl⟩
  rw [step_open ho]
  show (⟨_, frs s.opens ++ [_], false⟩ : Ck) = _
  simp [ckOf, frs, Pg.opensP, toFr, tL, stB_length]
theorem go_if {v : Vn} {s : Pg.St} {st : List Nat} (hs : s.stack = st ++ [127]) (ht : Pg.topH s ≤ st.length) : Steps v s (Pg.opensP (Pg.takeP s) 4 64) := by
  refine ⟨[⟨4, 64, 0⟩], rfl, Goes.one ?_ rfl⟩
  rw [step_if rfl]
  unfold ckOf
  rw [hs, stB_append, show stB [127] = [127] from rfl, take_eq (frs_last _) (by rw [topFr_height, stB_length]; exact ht)]
  simp [frs, Pg.opensP, Pg.takeP, toFr, openC, tL, stB_length, hs]
theorem rev_at {α : Type} (l : List α) (n : Nat) (x : α) (h : l.reverse[n]? = some x) : n < l.length ∧ l[l.length - 1 - n]? = some x := by
  have h1 := (List.getElem?_eq_some_iff.1 h).1
  rw [List.length_reverse] at h1
  rw [List.getElem?_reverse h1] at h
  exact ⟨h1, h⟩
theorem label_at {l : List Pg.Opn} {n : Nat} {b : Pg.Opn} (h : l.reverse[n]? = some b) (hb : b.res = 64 ∨ b.op = 3) : labelL (frs l) n = some [] := by
  obtain ⟨h1, h2⟩ := rev_at l n b h
  unfold labelL
  have hl : (frs l).length = l.length + 1 := by simp [frs]
  rw [hl, if_pos (by omega), show l.length + 1 - 1 - n = (l.length - 1 - n) + 1 by omega]
  show ((l.map toFr)[l.length - 1 - n]?).map labelF = _
  rw [List.getElem?_map, h2]
  show some (labelF (toFr b)) = _
  unfold labelF toFr
  rcases hb with hb | hb
  · rw [hb]
    simp [kindL]
  · rw [hb]
    simp
theorem go_jumps {v : Vn} (hV : MadeV v) {s : Pg.St} {n : Nat} (h : Pg.Inv s n) (k : Nat) : Steps v s (Pg.jumpsP s k) := by
  unfold Pg.jumpsP
  split
  · exact Steps.refl _ _
  · rename_i b hb
    split
    · exact Steps.refl _ _
    · rename_i hn
      refine (go_want hV h (.inr rfl)).trans ?_
      obtain ⟨st, hs, ht⟩ := want_form h 127
      refine ⟨[⟨13, ((k % s.opens.length : Nat) : Int), 0⟩], rfl, Goes.one ?_ rfl⟩
      unfold ckOf
      rw [hs, stB_append, show stB [127] = [127] from rfl, step_brif rfl (frs_last _) (by rw [topFr_height, stB_length]; exact ht) ?_]
      · simp [Pg.takeP, Pg.putP, hs]
      · rw [Pg.want_opens]
        exact label_at hb (by
          by_cases h64 : b.res = 64
          · exact .inl h64
          · exact .inr (Classical.byContradiction fun h3 => hn ⟨h64, h3⟩))
theorem kind_local {v : Vn} (hV : MadeV v) {n : Nat} (hn : n < 4) : v.locals[((n : Nat) : Int).toNat]? = some (UInt8.ofNat (Pg.kindAt n)) := by
  rw [hV.locals]
  rcases (show n = 0 ∨ n = 1 ∨ n = 2 ∨ n = 3 by omega) with rfl | rfl | rfl | rfl <;> rfl
theorem go_does {v : Vn} (hV : MadeV v) {s : Pg.St} {n : Nat} (h : Pg.Inv s n) (hi : Ifs s) (t : Pg.Step) : Steps v s (Pg.doesP s t) := by
  have hk : 126 + t.op % 2 = 126 ∨ 126 + t.op % 2 = 127 := by omega
  have htop := h.top_le
  unfold Pg.doesP
  dsimp only
  by_cases h1 : t.kind % 16 ≤ 1
  · rw [if_pos h1]
    rcases hk with e | e
    · rw [e, if_neg (by decide)]
      exact Steps.eff (st := s.stack) (p := []) (r := [126]) (ef66 v (by first | rfl | decide)) rfl rfl (by simp) rfl rfl rfl htop
    · rw [e, if_pos rfl]
      exact Steps.eff (st := s.stack) (p := []) (r := [127]) (ef65 v (by first | rfl | decide)) rfl rfl (by simp) rfl rfl rfl htop
  rw [if_neg h1]
  by_cases h1 : t.kind % 16 ≤ 3
  · rw [if_pos h1]
    obtain ⟨j, hj⟩ : ∃ j, t.op / 2 % 15 = j := ⟨_, rfl⟩
    have hj15 : j < 15 := by omega
    rw [hj]
    rcases hk with e | e
    · rw [e, if_neg (by decide)]
      obtain ⟨st, hs, ht⟩ := want_form h 126
      refine (go_want hV h (.inl rfl)).trans (Steps.trans (b := Pg.pushP (Pg.putP (Pg.wantP s 126) 32 (((126 : Nat) : Int) - 126) 0) 126) ?_ ?_)
      · exact Steps.eff (st := st ++ [126]) (p := []) (r := [126]) (eff_get (by rfl) (by exact kind_local hV (n := 0) (by decide))) rfl rfl (by rw [hs, List.append_nil]) (by simp [Pg.pushP, Pg.putP, hs]) rfl rfl (by simp; omega)
      · exact Steps.eff (st := st) (p := [126, 126]) (r := [126]) (ef64' v hj15 (by rfl)) rfl rfl (by simp [Pg.pushP, Pg.putP, hs]) (by simp [Pg.putP, hs]) rfl rfl ht
    · rw [e, if_pos rfl]
      obtain ⟨st, hs, ht⟩ := want_form h 127
      refine (go_want hV h (.inr rfl)).trans (Steps.trans (b := Pg.pushP (Pg.putP (Pg.wantP s 127) 32 (((127 : Nat) : Int) - 126) 0) 127) ?_ ?_)
      · exact Steps.eff (st := st ++ [127]) (p := []) (r := [127]) (eff_get (by rfl) (by exact kind_local hV (n := 1) (by decide))) rfl rfl (by rw [hs, List.append_nil]) (by simp [Pg.pushP, Pg.putP, hs]) rfl rfl (by simp; omega)
      · exact Steps.eff (st := st) (p := [127, 127]) (r := [127]) (ef32 v hj15 (by rfl)) rfl rfl (by simp [Pg.pushP, Pg.putP, hs]) (by simp [Pg.putP, hs]) rfl rfl ht
  rw [if_neg h1]
  by_cases h1 : t.kind % 16 = 4
  · rw [if_pos h1]
    rcases hk with e | e
    · rw [e, if_neg (by decide)]
      obtain ⟨st, hs, ht⟩ := want_form h 126
      refine (go_want hV h (.inl rfl)).trans ?_
      exact Steps.eff (st := st) (p := [126]) (r := [127]) (ef80 v (by rfl)) rfl rfl hs (by simp [Pg.pushP, Pg.takeP, Pg.putP, hs]) rfl rfl ht
    · rw [e, if_pos rfl]
      obtain ⟨st, hs, ht⟩ := want_form h 127
      refine (go_want hV h (.inr rfl)).trans ?_
      exact Steps.eff (st := st) (p := [127]) (r := [127]) (ef69 v (by rfl)) rfl rfl hs (by simp [Pg.pushP, Pg.takeP, Pg.putP, hs]) rfl rfl ht
  rw [if_neg h1]
  obtain ⟨m, hm⟩ : ∃ m, t.op % 4 = m := ⟨_, rfl⟩
  have hm4 : m < 4 := by omega
  rw [hm]
  by_cases h1 : t.kind % 16 = 5
  · rw [if_pos h1]
    exact Steps.eff (st := s.stack) (p := []) (r := [Pg.kindAt m]) (eff_get (by rfl) (by exact kind_local hV hm4)) rfl rfl (by simp) rfl rfl rfl htop
  rw [if_neg h1]
  by_cases h1 : t.kind % 16 = 6
  · rw [if_pos h1]
    obtain ⟨st, hs, ht⟩ := want_form h (Pg.kindAt m)
    refine (go_want hV h (Pg.kindAt_or m)).trans ?_
    exact Steps.eff (st := st) (p := [Pg.kindAt m]) (r := []) (eff_set (by rfl) (by exact kind_local hV hm4)) rfl rfl hs (by simp [Pg.takeP, Pg.putP, hs]) rfl rfl ht
  rw [if_neg h1]
  by_cases h1 : t.kind % 16 = 7
  · rw [if_pos h1]
    obtain ⟨st, hs, ht⟩ := want_form h (Pg.kindAt m)
    refine (go_want hV h (Pg.kindAt_or m)).trans ?_
    exact Steps.eff (st := st) (p := [Pg.kindAt m]) (r := [Pg.kindAt m]) (eff_tee (by rfl) (by exact kind_local hV hm4)) rfl rfl hs (by simp [Pg.putP, hs]) rfl rfl ht
  rw [if_neg h1]
  by_cases h1 : t.kind % 16 = 8
  · rw [if_pos h1]
    have hp : Steps v s (Pg.pushP (Pg.putP s 35 ((t.op % 2 : Nat) : Int) 0) (127 - t.op % 2)) := by
      rcases (show t.op % 2 = 0 ∨ t.op % 2 = 1 by omega) with e | e
      · rw [e]
        exact Steps.eff (st := s.stack) (p := []) (r := [127]) (eff_gget (by rfl) (by exact hV.g0)) rfl rfl (by simp) rfl rfl rfl htop
      · rw [e]
        exact Steps.eff (st := s.stack) (p := []) (r := [126]) (eff_gget (by rfl) (by exact hV.g1)) rfl rfl (by simp) rfl rfl rfl htop
    have h2 := (h.put 35 ((t.op % 2 : Nat) : Int) 0).push (k := 127 - t.op % 2) (by omega)
    obtain ⟨st, hs, ht⟩ := want_form h2 126
    refine hp.trans ((go_want hV h2 (.inl rfl)).trans ?_)
    exact Steps.eff (st := st) (p := [126]) (r := []) (eff_gset (by rfl) (by exact hV.g1) rfl) rfl rfl hs (by show (Pg.wantP _ 126).stack.dropLast = _; rw [hs]; simp) rfl rfl ht
  rw [if_neg h1]
  by_cases h1 : t.kind % 16 = 9
  · rw [if_pos h1]
    obtain ⟨st, hs, ht⟩ := want_form h 127
    refine (go_want hV h (.inr rfl)).trans ?_
    exact Steps.eff (st := st) (p := [127]) (r := [127]) (ef40 hV (by rfl) (by show ((t.op % 3 : Nat) : Int) ≤ 2; omega)) rfl rfl hs (by simp [Pg.putP, hs]) rfl rfl ht
  rw [if_neg h1]
  by_cases h1 : t.kind % 16 = 10
  · rw [if_pos h1]
    obtain ⟨st, hs, ht⟩ := want_form h 127
    obtain ⟨j, hj⟩ : ∃ j, t.op % 3 = j := ⟨_, rfl⟩
    rw [hj]
    refine (go_want hV h (.inr rfl)).trans (Steps.trans (b := Pg.pushP (Pg.putP (Pg.wantP s 127) 32 0 0) 126) ?_ ?_)
    · exact Steps.eff (st := st ++ [127]) (p := []) (r := [126]) (eff_get (by rfl) (by exact kind_local hV (n := 0) (by decide))) rfl rfl (by rw [hs, List.append_nil]) (by simp [Pg.pushP, Pg.putP, hs]) rfl rfl (by simp; omega)
    · have he : Eff v (tL ⟨60 + (j : Int), 0, t.b % 131072⟩) [127, 126] [] := by
        rcases (show j = 0 ∨ j = 1 ∨ j = 2 by omega) with rfl | rfl | rfl
        · exact ef60 hV (by rfl) (by show (0 : Int) ≤ reachOf 60; decide)
        · exact ef61 hV (by rfl) (by show (0 : Int) ≤ reachOf 61; decide)
        · exact ef62 hV (by rfl) (by show (0 : Int) ≤ reachOf 62; decide)
      exact Steps.eff (st := st) (p := [127, 126]) (r := []) he rfl rfl (by simp [Pg.pushP, Pg.putP, hs]) (by simp [Pg.takeP, Pg.putP, hs]) rfl rfl ht
  rw [if_neg h1]
  by_cases h1 : t.kind % 16 = 11
  · rw [if_pos h1]; exact go_opens (by omega)
  rw [if_neg h1]
  by_cases h1 : t.kind % 16 = 12
  · rw [if_pos h1]
    obtain ⟨st, hs, ht⟩ := want_form h 127
    exact (go_want hV h (.inr rfl)).trans (go_if hs ht)
  rw [if_neg h1]
  by_cases h1 : t.kind % 16 = 13
  · rw [if_pos h1]
    cases hb : s.opens.getLast? with
    | none => exact Steps.refl _ _
    | some b =>
      dsimp only
      by_cases h4 : b.op = 4 ∧ t.op % 2 = 0
      · rw [if_pos h4]; exact go_else hV h hi hb h4.1
      · rw [if_neg h4]; exact go_shut hV h hi hb
  rw [if_neg h1]
  by_cases h1 : t.kind % 16 = 14
  · rw [if_pos h1]; exact go_jumps hV h _
  rw [if_neg h1]
  have e63 : Steps v s (Pg.pushP (Pg.putP s 63 0 0) 127) := Steps.eff (st := s.stack) (p := []) (r := [127]) (ef63 hV (by first | rfl | decide)) rfl rfl (by simp) rfl rfl rfl htop
  by_cases h1 : t.op % 3 = 0
  · rw [if_pos h1]; exact e63
  rw [if_neg h1]
  by_cases h1 : t.op % 3 = 1
  · rw [if_pos h1]
    exact Steps.eff (st := s.stack) (p := []) (r := []) (ef1 v (by first | rfl | decide)) rfl rfl (by simp) (by simp [Pg.putP]) rfl rfl htop
  rw [if_neg h1]
  refine e63.trans ?_
  exact Steps.eff (st := s.stack) (p := [127]) (r := [127]) (ef64 hV (by first | rfl | decide)) rfl rfl rfl (by simp [Pg.pushP, Pg.putP]) rfl rfl htop
end Go.Proofs.YthcjgdmmpopplaaGreatDoor.Vld

/- VldMadeB: A whole program that made makes goes through the checker; so do its ends turned. Plain: no program in sight. -/
namespace Go.Proofs.YthcjgdmmpopplaaGreatDoor.Vld
open Go.RowKit Go.Proofs.YthcjgdmmpopplaaGreatDoor.Op Go.Proofs.YthcjgdmmpopplaaGreatDoor.Mod
set_option linter.unusedVariables false
theorem Ifs.of {s s' : Pg.St} (h : Ifs s) (ho : s'.opens = s.opens) : Ifs s' := fun b hb => h b (ho ▸ hb)
theorem Ifs.shut {s : Pg.St} (h : Ifs s) (b : Pg.Opn) : Ifs (Pg.shutP s b) := by
  have h1 : (Pg.shutP s b).opens = s.opens.dropLast := by
    unfold Pg.shutP
    dsimp only
    split <;> (show (Pg.levelP s b).opens.dropLast = _; rw [Pg.level_opens])
  intro x hx
  rw [h1] at hx
  exact h x (List.dropLast_subset _ hx)
theorem Ifs.els {s : Pg.St} (h : Ifs s) (b : Pg.Opn) : Ifs (Pg.elseP s b) := by
  intro x hx
  have h1 : (Pg.elseP s b).opens = s.opens.dropLast ++ [{ b with op := 5 }] := by
    show (Pg.levelP s b).opens.dropLast ++ _ = _
    rw [Pg.level_opens]
  rw [h1] at hx
  rcases List.mem_append.1 hx with hx | hx
  · exact h x (List.dropLast_subset _ hx)
  · rw [List.mem_singleton.1 hx]
    intro h4
    exact absurd (show (5 : Int) = 4 from h4) (by decide)
theorem Ifs.opens {s : Pg.St} (h : Ifs s) {o : Int} {r : Nat} (ho : o = 4 → r = 64) : Ifs (Pg.opensP s o r) := by
  intro x hx
  rcases List.mem_append.1 (show x ∈ s.opens ++ [⟨o, r, s.stack.length⟩] from hx) with hx | hx
  · exact h x hx
  · rw [List.mem_singleton.1 hx]; exact ho
theorem Ifs.does {s : Pg.St} (h : Ifs s) (t : Pg.Step) : Ifs (Pg.doesP s t) := by
  have hw : ∀ k, (Pg.wantP s k).opens = s.opens := fun k => Pg.want_opens s k
  unfold Pg.doesP
  dsimp only
  by_cases h1 : t.kind % 16 ≤ 1
  · rw [if_pos h1]; exact h.of rfl
  rw [if_neg h1]
  by_cases h1 : t.kind % 16 ≤ 3
  · rw [if_pos h1]; exact h.of (hw _)
  rw [if_neg h1]
  by_cases h1 : t.kind % 16 = 4
  · rw [if_pos h1]; exact h.of (hw _)
  rw [if_neg h1]
  by_cases h1 : t.kind % 16 = 5
  · rw [if_pos h1]; exact h.of rfl
  rw [if_neg h1]
  by_cases h1 : t.kind % 16 = 6
  · rw [if_pos h1]; exact h.of (hw _)
  rw [if_neg h1]
  by_cases h1 : t.kind % 16 = 7
  · rw [if_pos h1]; exact h.of (hw _)
  rw [if_neg h1]
  by_cases h1 : t.kind % 16 = 8
  · rw [if_pos h1]; exact h.of (Pg.want_opens _ _)
  rw [if_neg h1]
  by_cases h1 : t.kind % 16 = 9
  · rw [if_pos h1]; exact h.of (hw _)
  rw [if_neg h1]
  by_cases h1 : t.kind % 16 = 10
  · rw [if_pos h1]; exact h.of (hw _)
  rw [if_neg h1]
  by_cases h1 : t.kind % 16 = 11
  · rw [if_pos h1]; exact h.opens (by omega)
  rw [if_neg h1]
  by_cases h1 : t.kind % 16 = 12
  · rw [if_pos h1]; exact Ifs.opens (s := Pg.takeP (Pg.wantP s 127)) (h.of (hw 127)) (fun _ => rfl)
  rw [if_neg h1]
  by_cases h1 : t.kind % 16 = 13
  · rw [if_pos h1]
    cases hb : s.opens.getLast? with
    | none => exact h
    | some b =>
      dsimp only
      by_cases h4 : b.op = 4 ∧ t.op % 2 = 0
      · rw [if_pos h4]; exact h.els b
      · rw [if_neg h4]; exact h.shut b
  rw [if_neg h1]
  by_cases h1 : t.kind % 16 = 14
  · rw [if_pos h1]
    unfold Pg.jumpsP
    split
    · exact h
    · split
      · exact h
      · exact h.of (hw _)
  rw [if_neg h1]
  by_cases h1 : t.op % 3 = 0
  · rw [if_pos h1]; exact h.of rfl
  rw [if_neg h1]
  by_cases h1 : t.op % 3 = 1
  · rw [if_pos h1]; exact h.of rfl
  rw [if_neg h1]
  exact h.of rfl
theorem go_run {v : Vn} (hV : MadeV v) : ∀ (l : List Pg.Step) {s : Pg.St} {n : Nat}, Pg.Inv s n → Ifs s → Steps v s (Pg.runP s l) ∧ Ifs (Pg.runP s l)
  | [], s, n, h, hi => ⟨Steps.refl _ _, hi⟩
  | t :: l, s, n, h, hi => by
    have h1 := go_run hV l (h.does t) (hi.does t)
    exact ⟨(go_does hV h hi t).trans h1.1, h1.2⟩
theorem go_shutAll {v : Vn} (hV : MadeV v) : ∀ (k : Nat) {s : Pg.St} {n : Nat}, Pg.Inv s n → Ifs s → Steps v s (Pg.shutAll k s)
  | 0, s, n, h, hi => Steps.refl _ _
  | k + 1, s, n, h, hi => by
    cases hb : s.opens.getLast? with
    | none => show Steps v s (match s.opens.getLast? with | none => s | some b => Pg.shutAll k (Pg.shutP s b)); rw [hb]; exact Steps.refl _ _
    | some b => rw [Pg.shutAll_last hb]; exact (go_shut hV h hi hb).trans (go_shutAll hV k (h.shut hb).1 (hi.shut b))
theorem shutAll_inv2 : ∀ (k : Nat) (s : Pg.St) (n : Nat), Pg.Inv s n → s.opens.length = k → Pg.Inv (Pg.shutAll k s) n ∧ (Pg.shutAll k s).opens = []
  | 0, s, n, h, hk => ⟨h, List.eq_nil_of_length_eq_zero hk⟩
  | k + 1, s, n, h, hk => by
    obtain ⟨b, hb⟩ : ∃ b, s.opens.getLast? = some b := by
      cases hq : s.opens.getLast? with
      | none => rw [List.getLast?_eq_none_iff.1 hq] at hk; simp at hk
      | some b => exact ⟨b, rfl⟩
    rw [Pg.shutAll_last hb]
    obtain ⟨h1, h2⟩ := h.shut hb
    exact shutAll_inv2 k _ n h1 (by omega)
/-- to ahead of the last end -/
theorem go_made {v : Vn} (hV : MadeV v) (l : List Pg.Step) : ∃ c, (Pg.madeP l).code = c ++ [⟨11, 0, 0⟩] ∧ Goes v c (startC [126]) ⟨[126], [baseF], false⟩ := by
  have hI := Pg.Inv.run Pg.Inv.start (l.take 60)
  obtain ⟨h1, hi1⟩ := go_run hV (l.take 60) (s := .start) Pg.Inv.start (fun b hb => by simp [Pg.St.start] at hb)
  have h2 := go_shutAll hV (Pg.runP .start (l.take 60)).opens.length hI hi1
  obtain ⟨hI2, ho2⟩ := shutAll_inv2 _ _ _ hI rfl
  have ht : Pg.topH (Pg.shutAll (Pg.runP .start (l.take 60)).opens.length (Pg.runP .start (l.take 60))) = 0 := by unfold Pg.topH; rw [ho2]; rfl
  obtain ⟨c, h3, h4⟩ := go_level hV hI2 (b := ⟨0, 126, 0⟩) (.inr (.inl rfl)) ht.symm
  obtain ⟨c1, h5, h6⟩ := h1.trans h2
  refine ⟨c1 ++ c, ?_, ?_⟩
  · show (Pg.levelP _ ⟨0, 126, 0⟩).code ++ _ = _
    rw [h3, h5]
    rfl
  · have h7 := h6.trans h4
    rw [ho2] at h7
    have e : stB (Pg.levelP (Pg.shutAll (Pg.runP .start (l.take 60)).opens.length (Pg.runP .start (l.take 60))) ⟨0, 126, 0⟩).stack = [] := by
      simp [Pg.levelP, stB]
    rw [e] at h7
    exact h7
theorem run_end (v : Vn) (xs ys : List InsL) (c c' : Ck) (h : walkC v xs c = some c') : runC v (xs ++ ys) c = runC v ys c' := by
  rw [runC_walk, runC_walk, walk_append, h]
  rfl
/-- the ways that the law turns the end -/
def moreI : List InsL := [⟨65, 0, 0, []⟩, ⟨11, 0, 0, []⟩]
def lessI : List InsL := [⟨26, 0, 0, []⟩, ⟨11, 0, 0, []⟩]
def deadI : List InsL := [⟨15, 0, 0, []⟩, ⟨26, 0, 0, []⟩, ⟨106, 0, 0, []⟩, ⟨26, 0, 0, []⟩, ⟨11, 0, 0, []⟩]
theorem end_made (v : Vn) : runC v [⟨11, 0, 0, []⟩] ⟨[126], [baseF], false⟩ = true := by rfl
theorem end_dead (v : Vn) (hr : v.result = [126]) : runC v deadI ⟨[126], [baseF], false⟩ = true := by
  obtain ⟨m, lo, re⟩ := v
  subst hr
  obtain ⟨t, f, me, g, e, s, d⟩ := m
  cases me <;> kernel_rfl
theorem end_more (v : Vn) : runC v moreI ⟨[126], [baseF], false⟩ = false := by
  obtain ⟨m, lo, re⟩ := v
  obtain ⟨t, f, me, g, e, s, d⟩ := m
  cases me <;> kernel_rfl
theorem end_less (v : Vn) : runC v lessI ⟨[126], [baseF], false⟩ = false := by kernel_rfl
/-- what the law asks of the four -/
theorem made_valid {m : ModP} {lo : ByteArray} (ht : m.types = [⟨⟨#[126, 127]⟩, ⟨#[126]⟩⟩]) (hl : lo = ⟨#[127, 126]⟩) (g0 : m.globals[0]? = some ⟨127, true, 5⟩) (g1 : m.globals[1]? = some ⟨126, true, -5⟩) (hm : m.memory ≠ []) (l : List Pg.Step) :
    validF m ⟨0, lo, (Pg.madeP l).code.map tL⟩ = true ∧ ∃ c, (Pg.madeP l).code = c ++ [⟨11, 0, 0⟩] ∧ validF m ⟨0, lo, c.map tL ++ moreI⟩ = false ∧ validF m ⟨0, lo, c.map tL ++ lessI⟩ = false ∧ validF m ⟨0, lo, c.map tL ++ deadI⟩ = true := by
  subst hl
  have hv : ∀ code, validF m ⟨0, ⟨#[127, 126]⟩, code⟩ = runC ⟨m, [126, 127, 127, 126], [126]⟩ code (startC [126]) := fun code => by
    unfold validF
    simp only [ht]
    rfl
  have hV : MadeV ⟨m, [126, 127, 127, 126], [126]⟩ := ⟨rfl, rfl, g0, g1, hm⟩
  obtain ⟨c, h1, h2⟩ := go_made hV l
  refine ⟨?_, c, h1, ?_, ?_, ?_⟩
  · rw [hv, h1, List.map_append, run_end _ _ _ _ _ h2]
    exact end_made _
  · rw [hv, run_end _ _ _ _ _ h2]; exact end_more _
  · rw [hv, run_end _ _ _ _ _ h2]; exact end_less _
  · rw [hv, run_end _ _ _ _ _ h2]; exact end_dead _ rfl
end Go.Proofs.YthcjgdmmpopplaaGreatDoor.Vld

/- VldNest: How many blocks stand in one another in what made makes. Plain: no program in sight. -/
namespace Go.Proofs.YthcjgdmmpopplaaGreatDoor.Vld
open Go.RowKit Go.Proofs.YthcjgdmmpopplaaGreatDoor.Op Go.Proofs.YthcjgdmmpopplaaGreatDoor.Mod
set_option linter.unusedVariables false
def isOpen (o : Int) : Bool := decide (o = 2 ∨ o = 3 ∨ o = 4)
def cntL (l : List Pg.Ins) : Nat := l.countP fun x => isOpen x.op
def cnt (s : Pg.St) : Nat := cntL s.code
theorem cntL_append (a b : List Pg.Ins) : cntL (a ++ b) = cntL a + cntL b := List.countP_append
theorem cntL_one {x : Pg.Ins} (h : ¬ (x.op = 2 ∨ x.op = 3 ∨ x.op = 4)) : cntL [x] = 0 := by
  unfold cntL isOpen
  rw [List.countP_singleton, decide_eq_false h]
  rfl
theorem cnt_put {s : Pg.St} {o a b : Int} (h : ¬ (o = 2 ∨ o = 3 ∨ o = 4)) : cnt (Pg.putP s o a b) = cnt s := by
  show cntL (s.code ++ [⟨o, a, b⟩]) = _
  rw [cntL_append, cntL_one h]
  rfl
theorem cnt_want (s : Pg.St) {k : Nat} (hk : k = 126 ∨ k = 127) : cnt (Pg.wantP s k) = cnt s := by
  unfold Pg.wantP
  split
  · show cntL (s.code ++ [_]) = _
    rw [cntL_append, cntL_one (by dsimp only; omega)]
    rfl
  · split
    · rfl
    · show cntL (s.code ++ [_]) = _
      rw [cntL_append, cntL_one (by dsimp only; split <;> omega)]
      rfl
theorem cntL_flat (j : Nat) (l : List Pg.Ins) (h : cntL l = 0) : cntL (List.replicate j l).flatten = 0 := by
  induction j with
  | zero => rfl
  | succ j ih => rw [Pg.replicate_flat, cntL_append, ih, h]
theorem cnt_level (s : Pg.St) {b : Pg.Opn} (hb : b.res = 64 ∨ b.res = 126 ∨ b.res = 127) : cnt (Pg.levelP s b) = cnt s := by
  show cntL ((Pg.readyP s b).code ++ _) = _
  have hd : cntL (Pg.dropI b.res) = 0 := by
    unfold Pg.dropI
    split <;> rfl
  rw [cntL_append, cntL_flat _ _ hd]
  unfold Pg.readyP
  split
  · rfl
  · exact cnt_want s (by omega)
theorem cnt_shut (s : Pg.St) {b : Pg.Opn} (hb : b.res = 64 ∨ b.res = 126 ∨ b.res = 127) : cnt (Pg.shutP s b) = cnt s := by
  have h : cntL ((Pg.levelP s b).code ++ [⟨11, 0, 0⟩]) = cnt s := by
    rw [cntL_append, cntL_one (by decide)]
    exact cnt_level s hb
  unfold Pg.shutP
  dsimp only
  split
  · exact h
  · exact h
theorem cnt_els (s : Pg.St) {b : Pg.Opn} (hb : b.res = 64 ∨ b.res = 126 ∨ b.res = 127) : cnt (Pg.elseP s b) = cnt s := by
  show cntL ((Pg.levelP s b).code ++ [⟨5, 0, 0⟩]) = cnt s
  rw [cntL_append, cntL_one (by decide)]
  exact cnt_level s hb
theorem cnt_opens (s : Pg.St) (o : Int) (r : Nat) : cnt (Pg.opensP s o r) ≤ cnt s + 1 := by
  show cntL (s.code ++ [_]) ≤ _
  rw [cntL_append]
  have : cntL [(⟨o, r, 0⟩ : Pg.Ins)] ≤ 1 := List.countP_le_length
  unfold cnt
  omega
theorem cnt_does {s : Pg.St} {n : Nat} (h : Pg.Inv s n) (t : Pg.Step) : cnt (Pg.doesP s t) ≤ cnt s + 1 := by
  have hk : 126 + t.op % 2 = 126 ∨ 126 + t.op % 2 = 127 := by omega
  have tk : ∀ s : Pg.St, cnt (Pg.takeP s) = cnt s := fun _ => rfl
  have ps : ∀ (s : Pg.St) (k : Nat), cnt (Pg.pushP s k) = cnt s := fun _ _ => rfl
  unfold Pg.doesP
  dsimp only
  by_cases h1 : t.kind % 16 ≤ 1
  · rw [if_pos h1, ps, cnt_put (by omega)]; omega
  rw [if_neg h1]
  by_cases h1 : t.kind % 16 ≤ 3
  · rw [if_pos h1, cnt_put (by split <;> omega), cnt_put (by decide), cnt_want s hk]; omega
  rw [if_neg h1]
  by_cases h1 : t.kind % 16 = 4
  · rw [if_pos h1, ps, tk, cnt_put (by split <;> omega), cnt_want s hk]; omega
  rw [if_neg h1]
  by_cases h1 : t.kind % 16 = 5
  · rw [if_pos h1, ps, cnt_put (by decide)]; omega
  rw [if_neg h1]
  by_cases h1 : t.kind % 16 = 6
  · rw [if_pos h1, tk, cnt_put (by decide), cnt_want s (Pg.kindAt_or _)]; omega
  rw [if_neg h1]
  by_cases h1 : t.kind % 16 = 7
  · rw [if_pos h1, cnt_put (by decide), cnt_want s (Pg.kindAt_or _)]; omega
  rw [if_neg h1]
  by_cases h1 : t.kind % 16 = 8
  · rw [if_pos h1, tk, cnt_put (by decide), cnt_want _ (.inl rfl), ps, cnt_put (by decide)]; omega
  rw [if_neg h1]
  by_cases h1 : t.kind % 16 = 9
  · rw [if_pos h1, cnt_put (by decide), cnt_want s (.inr rfl)]; omega
  rw [if_neg h1]
  by_cases h1 : t.kind % 16 = 10
  · rw [if_pos h1, tk, cnt_put (by omega), cnt_put (by decide), cnt_want s (.inr rfl)]; omega
  rw [if_neg h1]
  by_cases h1 : t.kind % 16 = 11
  · rw [if_pos h1]; exact cnt_opens _ _ _
  rw [if_neg h1]
  by_cases h1 : t.kind % 16 = 12
  · rw [if_pos h1]
    have := cnt_opens (Pg.takeP (Pg.wantP s 127)) 4 64
    rw [tk, cnt_want s (.inr rfl)] at this
    exact this
  rw [if_neg h1]
  by_cases h1 : t.kind % 16 = 13
  · rw [if_pos h1]
    cases hb : s.opens.getLast? with
    | none => dsimp only; omega
    | some b =>
      have o2 := (h.os b (Pg.last_mem hb)).2
      dsimp only
      by_cases h4 : b.op = 4 ∧ t.op % 2 = 0
      · rw [if_pos h4, cnt_els s o2]; omega
      · rw [if_neg h4, cnt_shut s o2]; omega
  rw [if_neg h1]
  by_cases h1 : t.kind % 16 = 14
  · rw [if_pos h1]
    unfold Pg.jumpsP
    split
    · omega
    · split
      · omega
      · rw [tk, cnt_put (by decide), cnt_want s (.inr rfl)]; omega
  rw [if_neg h1]
  by_cases h1 : t.op % 3 = 0
  · rw [if_pos h1, ps, cnt_put (by decide)]; omega
  rw [if_neg h1]
  by_cases h1 : t.op % 3 = 1
  · rw [if_pos h1, cnt_put (by decide)]; omega
  rw [if_neg h1, cnt_put (by decide), ps, cnt_put (by decide)]; omega
theorem cnt_run : ∀ (l : List Pg.Step) {s : Pg.St} {n : Nat}, Pg.Inv s n → cnt (Pg.runP s l) ≤ cnt s + l.length
  | [], s, n, h => Nat.le_refl _
  | t :: l, s, n, h => by
    have h1 := cnt_run l (h.does t)
    have h2 := cnt_does h t
    show cnt (Pg.runP (Pg.doesP s t) l) ≤ cnt s + (l.length + 1)
    omega
theorem cnt_shutAll : ∀ (k : Nat) {s : Pg.St} {n : Nat}, Pg.Inv s n → cnt (Pg.shutAll k s) = cnt s
  | 0, s, n, h => rfl
  | k + 1, s, n, h => by
    cases hb : s.opens.getLast? with
    | none => show cnt (match s.opens.getLast? with | none => s | some b => Pg.shutAll k (Pg.shutP s b)) = _; rw [hb]
    | some b => rw [Pg.shutAll_last hb, cnt_shutAll k (h.shut hb).1, cnt_shut s (h.os b (Pg.last_mem hb)).2]
theorem cnt_made (l : List Pg.Step) : cntL (Pg.madeP l).code ≤ 60 := by
  have hI := Pg.Inv.run Pg.Inv.start (l.take 60)
  have h1 := cnt_run (l.take 60) Pg.Inv.start
  have h2 := cnt_shutAll (Pg.runP .start (l.take 60)).opens.length hI
  have h3 := cnt_level (Pg.shutAll (Pg.runP .start (l.take 60)).opens.length (Pg.runP .start (l.take 60))) (b := ⟨0, 126, 0⟩) (.inr (.inl rfl))
  have h4 : (l.take 60).length ≤ 60 := by rw [List.length_take]; omega
  have h0 : cnt .start = 0 := rfl
  show cntL (((Pg.levelP _ ⟨0, 126, 0⟩).code) ++ [⟨11, 0, 0⟩]) ≤ 60
  rw [cntL_append, cntL_one (by decide)]
  unfold cnt at *
  omega
theorem nestGo_le : ∀ (os : List Int) (n most : Int), nestGo os n most ≤ max most (n + (os.countP isOpen : Nat))
  | [], n, most => by show most ≤ _; omega
  | o :: os, n, most => by
    have h2 : (((o :: os).countP isOpen : Nat) : Int) = (os.countP isOpen : Nat) + (if o = 2 ∨ o = 3 ∨ o = 4 then 1 else 0) := by
      rw [List.countP_cons]
      unfold isOpen
      by_cases ho : o = 2 ∨ o = 3 ∨ o = 4
      · simp [ho]
      · simp [ho]
    obtain ⟨c, hc⟩ : ∃ c : Int, (if o = 2 ∨ o = 3 ∨ o = 4 then (1 : Int) else 0) = c := ⟨_, rfl⟩
    have hc0 : 0 ≤ c := by rw [← hc]; split <;> decide
    obtain ⟨n1, hn⟩ : ∃ n1 : Int, (if o = 2 ∨ o = 3 ∨ o = 4 then n + 1 else if o = 11 then n - 1 else n) = n1 := ⟨_, rfl⟩
    have hn1 : n1 ≤ n + c := by
      rw [← hn, ← hc]
      by_cases ho : o = 2 ∨ o = 3 ∨ o = 4
      · rw [if_pos ho, if_pos ho]; exact Int.le_refl _
      · rw [if_neg ho, if_neg ho]; split <;> omega
    rw [h2, hc]
    show nestGo os (if o = 2 ∨ o = 3 ∨ o = 4 then n + 1 else if o = 11 then n - 1 else n) (if most ≤ (if o = 2 ∨ o = 3 ∨ o = 4 then n + 1 else if o = 11 then n - 1 else n) then (if o = 2 ∨ o = 3 ∨ o = 4 then n + 1 else if o = 11 then n - 1 else n) else most) ≤ _
    rw [hn]
    have h1 := nestGo_le os n1 (if most ≤ n1 then n1 else most)
    have h3 : (if most ≤ n1 then n1 else most) ≤ max most n1 := by split <;> omega
    have h4 : (0 : Int) ≤ (os.countP isOpen : Nat) := Int.natCast_nonneg _
    omega
theorem nest_le (xs : List InsL) : nestP xs ≤ ((xs.map InsL.op).countP isOpen : Nat) := by
  have := nestGo_le (xs.map InsL.op) 0 0
  unfold nestP
  omega
theorem cntL_map (l : List Pg.Ins) : ((l.map tL).map InsL.op).countP isOpen = cntL l := by
  unfold cntL
  rw [List.map_map, List.countP_map]
  rfl
/-- .. of a made program, and of its turned ends -/
theorem nest_made (l : List Pg.Step) : nestP ((Pg.madeP l).code.map tL) ≤ 60 := by
  have h1 := nest_le ((Pg.madeP l).code.map tL)
  rw [cntL_map] at h1
  have := cnt_made l
  omega
theorem nest_turn {l : List Pg.Step} {c : List Pg.Ins} (h : (Pg.madeP l).code = c ++ [⟨11, 0, 0⟩]) {e : List InsL} (he : (e.map InsL.op).countP isOpen = 0) : nestP (c.map tL ++ e) ≤ 60 := by
  have h1 := nest_le (c.map tL ++ e)
  rw [List.map_append, List.countP_append, cntL_map, he] at h1
  have h2 := cnt_made l
  rw [h, cntL_append] at h2
  omega
end Go.Proofs.YthcjgdmmpopplaaGreatDoor.Vld
