/-
  VldPlain, VldLaw in one.
-/
import Derived.Test.YtmbgemcddjailaaGreatDoorOpTable
import Derived.Test.YtmbgemcddjailaaGreatDoorModPlain
import Derived.Test.YtmbgemcddjailaaGreatDoorPgPlain
/- VldPlain: What package valid's checker does, as functions on plain states. Plain: no program in sight. -/
namespace Go.Proofs.YtmbgemcddjailaaGreatDoor.Vld
open Go.RowKit Go.Proofs.YtmbgemcddjailaaGreatDoor.Op Go.Proofs.YtmbgemcddjailaaGreatDoor.Mod
set_option linter.unusedVariables false
/-- a block that is open -/
structure Fr where
  op : Int
  result : List UInt8
  height : Nat
  dead : Bool
/-- the checker: what stands on its stack, its open blocks, whether something is wrong -/
structure Ck where
  stack : List UInt8
  frames : List Fr
  wrong : Bool
/-- what a function is checked against -/
structure Vn where
  m : ModP
  locals : List UInt8
  result : List UInt8
def wantC (c : Ck) (ok : Bool) : Ck := { c with wrong := c.wrong || !ok }
def popC (c : Ck) : Ck × UInt8 := match c.frames.getLast? with
  | none => (c, 0)
  | some f => if c.stack.length ≤ f.height then (wantC c f.dead, 0) else ({ c with stack := c.stack.dropLast }, c.stack.getLastD 0)
/-- types are taken, these in turn -/
def takeR : List UInt8 → Ck → Ck
  | [], c => c
  | t :: ts, c => takeR ts (wantC (popC c).1 ((popC c).2 == 0 || (popC c).2 == t))
def takeC (ts : List UInt8) (c : Ck) : Ck := takeR ts.reverse c
def putC (ts : List UInt8) (c : Ck) : Ck := { c with stack := c.stack ++ ts }
def setTop (fs : List Fr) (f : Fr) : List Fr := fs.dropLast ++ [f]
def killC (c : Ck) : Ck := match c.frames.getLast? with
  | none => c
  | some f => { c with stack := c.stack.take f.height, frames := setTop c.frames { f with dead := true } }
def kindL (kind : Int) : List UInt8 := if kind = 64 then [] else [UInt8.ofNat (kind % 256).toNat]
def openC (code kind : Int) (c : Ck) : Ck := { c with frames := c.frames ++ [⟨code, kindL kind, c.stack.length, false⟩] }
def shutC (f : Fr) (c : Ck) : Ck := let c1 := takeC f.result c; { wantC c1 (c1.stack.length == f.height) with stack := c1.stack.take f.height }
def labelF (f : Fr) : List UInt8 := if f.op = 3 then [] else f.result
def labelL (fs : List Fr) (n : Nat) : Option (List UInt8) := if n < fs.length then (fs[fs.length - 1 - n]?).map labelF else none
def badC (c : Ck) : Ck := { c with wrong := true }
def orBad {α : Type} (o : Option α) (d : α) (c : Ck) : Ck × α := match o with
  | some x => (c, x)
  | none => (badC c, d)
def labelC (n : Nat) (c : Ck) : Ck × List UInt8 := orBad (labelL c.frames n) [] c
def localC (v : Vn) (n : Nat) (c : Ck) : Ck × List UInt8 := orBad ((v.locals[n]?).map fun b => [b]) [] c
def globalC (v : Vn) (n : Nat) (set : Bool) (c : Ck) : Ck × List UInt8 := match v.m.globals[n]? with
  | none => (badC c, [])
  | some g => (wantC c (g.mut_ || !set), [UInt8.ofNat (g.ty % 256).toNat])
def calleeL (m : ModP) (n : Nat) : Option FT := match m.funcs[n]? with
  | none => none
  | some f => if 0 ≤ f.ty then m.types[f.ty.toNat]? else none
def noFT : FT := ⟨⟨#[]⟩, ⟨#[]⟩⟩
def calleeC (v : Vn) (n : Nat) (c : Ck) : Ck × FT := orBad (calleeL v.m n) noFT c
def reachOf (code : Int) : Int :=
  if code = 40 then 2 else if code = 41 then 3 else if code = 46 then 1 else if code = 47 then 1 else if code = 50 then 1 else if code = 51 then 1 else if code = 52 then 2 else if code = 53 then 2
  else if code = 54 then 2 else if code = 55 then 3 else if code = 59 then 1 else if code = 61 then 1 else if code = 62 then 2 else 0
def allSame (ls : List Int) (t : List UInt8) (c : Ck) : Ck := match ls with
  | [] => c
  | l :: ls => allSame ls t (let r := labelC l.toNat c; wantC r.1 (r.2 == t))
/-- what has to do with blocks; none: it is another one -/
def controlC (v : Vn) (x : InsL) (c : Ck) : Option Ck :=
  if x.op = 0 then some (killC c)
  else if x.op = 2 ∨ x.op = 3 then some (openC x.op x.a c)
  else if x.op = 4 then some (openC 4 x.a (takeC [127] c))
  else if x.op = 5 then some (match c.frames.getLast? with
    | none => c
    | some f => let c1 := shutC f c; { c1 with frames := setTop c1.frames { f with op := 5, dead := false } })
  else if x.op = 11 then some (match c.frames.getLast? with
    | none => c
    | some f => let c1 := wantC (shutC f c) (f.op != 4 || f.result.isEmpty); putC f.result { c1 with frames := c1.frames.dropLast })
  else if x.op = 12 then some (let r := labelC x.a.toNat c; killC (takeC r.2 r.1))
  else if x.op = 13 then some (let r := labelC x.a.toNat (takeC [127] c); putC r.2 (takeC r.2 r.1))
  else if x.op = 14 then some (let r := labelC x.a.toNat (takeC [127] c); killC (takeC r.2 (allSame x.labels r.2 r.1)))
  else if x.op = 15 then some (killC (takeC v.result c))
  else none
/-- an instruction -/
def stepC (v : Vn) (x : InsL) (c : Ck) : Ck := match controlC v x c with
  | some c1 => c1
  | none =>
    if x.op = 16 then (let r := calleeC v x.a.toNat c; putC r.2.results.data.toList (takeC r.2.params.data.toList r.1))
    else if x.op = 26 then (popC c).1
    else if x.op = 27 then
      (let c1 := takeC [127] c
       let a := popC c1
       let b := popC a.1
       let c2 := wantC b.1 (a.2 == b.2 || (a.2 == 0 || b.2 == 0))
       putC [if a.2 ≤ b.2 then b.2 else a.2] c2)
    else if x.op = 32 then (let r := localC v x.a.toNat c; putC r.2 r.1)
    else if x.op = 33 then (let r := localC v x.a.toNat c; takeC r.2 r.1)
    else if x.op = 34 then (let r := localC v x.a.toNat c; putC r.2 (takeC r.2 r.1))
    else if x.op = 35 then (let r := globalC v x.a.toNat false c; putC r.2 r.1)
    else if x.op = 36 then (let r := globalC v x.a.toNat true c; takeC r.2 r.1)
    else match opInfo x.op with
      | none => c
      | some i =>
        let c1 := wantC c (!v.m.memory.isEmpty || (i.shape != 5 && i.shape != 6))
        let c2 := wantC c1 (i.shape != 5 || decide (x.a ≤ reachOf x.op))
        putC i.results.data.toList (takeC i.params.data.toList c2)
def runC (v : Vn) : List InsL → Ck → Bool
  | [], _ => true
  | x :: xs, c => let c1 := stepC v x c; if c1.wrong then false else runC v xs c1
def startC (r : List UInt8) : Ck := ⟨[], [⟨0, r, 0, false⟩], false⟩
/-- is a function valid -/
def validF (m : ModP) (f : FuncP) : Bool := match (if 0 ≤ f.ty then m.types[f.ty.toNat]? else none) with
  | none => false
  | some t => runC ⟨m, t.params.data.toList ++ f.locals.data.toList, t.results.data.toList⟩ f.code (startC t.results.data.toList)
def nestGo : List Int → Int → Int → Int
  | [], _, most => most
  | o :: os, n, most => let n1 := if o = 2 ∨ o = 3 ∨ o = 4 then n + 1 else if o = 11 then n - 1 else n; nestGo os n1 (if most ≤ n1 then n1 else most)
def nestP (code : List InsL) : Int := nestGo (code.map InsL.op) 0 0
end Go.Proofs.YtmbgemcddjailaaGreatDoor.Vld

/- VldLaw: What made makes, checked: the checker goes by the very stack that made went by. Plain: no program in sight. -/
namespace Go.Proofs.YtmbgemcddjailaaGreatDoor.Vld
open Go.RowKit Go.Proofs.YtmbgemcddjailaaGreatDoor.Op Go.Proofs.YtmbgemcddjailaaGreatDoor.Mod
set_option linter.unusedVariables false
def tL (x : Pg.Ins) : InsL := ⟨x.op, x.a, x.b, []⟩
/-- through some instructions, nothing wrong -/
def walkC (v : Vn) : List InsL → Ck → Option Ck
  | [], c => some c
  | x :: xs, c => if (stepC v x c).wrong then none else walkC v xs (stepC v x c)
theorem runC_walk (v : Vn) : ∀ (xs : List InsL) (c : Ck), runC v xs c = (walkC v xs c).isSome
  | [], c => rfl
  | x :: xs, c => by
    show (if (stepC v x c).wrong then false else runC v xs (stepC v x c)) = (if (stepC v x c).wrong then none else walkC v xs (stepC v x c)).isSome
    split
    · rfl
    · exact runC_walk v xs _
theorem walk_append (v : Vn) : ∀ (xs ys : List InsL) (c : Ck), walkC v (xs ++ ys) c = (walkC v xs c).bind (walkC v ys)
  | [], ys, c => rfl
  | x :: xs, ys, c => by
    show (if (stepC v x c).wrong then none else walkC v (xs ++ ys) (stepC v x c)) = (if (stepC v x c).wrong then none else walkC v xs (stepC v x c)).bind _
    split
    · rfl
    · exact walk_append v xs ys _
def Goes (v : Vn) (xs : List Pg.Ins) (c c' : Ck) : Prop := walkC v (xs.map tL) c = some c'
theorem Goes.nil (v : Vn) (c : Ck) : Goes v [] c c := rfl
theorem Goes.trans {v : Vn} {xs ys : List Pg.Ins} {a b c : Ck} (h : Goes v xs a b) (k : Goes v ys b c) : Goes v (xs ++ ys) a c := by
  unfold Goes at *
  rw [List.map_append, walk_append, h]
  exact k
theorem Goes.one {v : Vn} {x : Pg.Ins} {c c' : Ck} (h : stepC v (tL x) c = c') (hw : c'.wrong = false) : Goes v [x] c c' := by
  show (if (stepC v (tL x) c).wrong then none else walkC v [] (stepC v (tL x) c)) = _
  rw [h, hw]
  rfl
theorem want_true {c : Ck} {b : Bool} (h : b = true) : wantC c b = c := by
  subst h
  cases c
  simp [wantC]
theorem pop_eq {st : List UInt8} {t : UInt8} {fs : List Fr} {f : Fr} {b : Bool} (hf : fs.getLast? = some f) (hh : f.height ≤ st.length) : popC ⟨st ++ [t], fs, b⟩ = (⟨st, fs, b⟩, t) := by
  unfold popC
  simp only [hf]
  rw [if_neg (by simp; omega)]
  simp [List.getLastD_eq_getLast?]
theorem takeR_eq {fs : List Fr} {f : Fr} {b : Bool} (hf : fs.getLast? = some f) : ∀ (rs st : List UInt8), f.height ≤ st.length → takeR rs ⟨st ++ rs.reverse, fs, b⟩ = ⟨st, fs, b⟩
  | [], st, _ => by simp [takeR]
  | t :: rs, st, hh => by
    unfold takeR
    rw [List.reverse_cons, ← List.append_assoc, pop_eq hf (by simp; omega), want_true (by simp)]
    exact takeR_eq hf rs st hh
theorem take_eq {ps st : List UInt8} {fs : List Fr} {f : Fr} {b : Bool} (hf : fs.getLast? = some f) (hh : f.height ≤ st.length) : takeC ps ⟨st ++ ps, fs, b⟩ = ⟨st, fs, b⟩ := by
  have := takeR_eq (b := b) hf ps.reverse st hh
  rw [List.reverse_reverse] at this
  exact this
/-- what an instruction does to the stack -/
def Eff (v : Vn) (x : InsL) (ps rs : List UInt8) : Prop := ∀ st fs f, fs.getLast? = some f → f.height ≤ st.length → stepC v x ⟨st ++ ps, fs, false⟩ = ⟨st ++ rs, fs, false⟩
def dflt (o : Int) : Prop := o = 1 ∨ 37 ≤ o
theorem control_dflt {v : Vn} {x : InsL} (h : dflt x.op) (c : Ck) : controlC v x c = none := by
  unfold dflt at h
  unfold controlC
  rw [if_neg (by omega), if_neg (by omega), if_neg (by omega), if_neg (by omega), if_neg (by omega), if_neg (by omega), if_neg (by omega), if_neg (by omega), if_neg (by omega)]
theorem control_none {v : Vn} {x : InsL} (h : 16 ≤ x.op) (c : Ck) : controlC v x c = none := by
  unfold controlC
  rw [if_neg (by omega), if_neg (by omega), if_neg (by omega), if_neg (by omega), if_neg (by omega), if_neg (by omega), if_neg (by omega), if_neg (by omega), if_neg (by omega)]
def sig (o : Int) : Option (List UInt8 × List UInt8 × Int) := (opInfo o).map fun i => (i.params.data.toList, i.results.data.toList, i.shape)
theorem step_dflt {v : Vn} {x : InsL} {ps rs : List UInt8} {sh : Int} (h : dflt x.op) (hs : sig x.op = some (ps, rs, sh)) (c : Ck) :
    stepC v x c = putC rs (takeC ps (wantC (wantC c (!v.m.memory.isEmpty || (sh != 5 && sh != 6))) (sh != 5 || decide (x.a ≤ reachOf x.op)))) := by
  unfold stepC
  rw [control_dflt h]
  unfold dflt at h
  unfold sig at hs
  rw [Option.map_eq_some_iff] at hs
  obtain ⟨i, hi, he⟩ := hs
  simp only [Prod.mk.injEq] at he
  obtain ⟨rfl, rfl, rfl⟩ := he
  dsimp only
  rw [if_neg (by omega), if_neg (by omega), if_neg (by omega), if_neg (by omega), if_neg (by omega), if_neg (by omega), if_neg (by omega), if_neg (by omega), hi]
theorem eff_sig {v : Vn} {x : InsL} {ps rs : List UInt8} {sh : Int} (h : dflt x.op) (hs : sig x.op = some (ps, rs, sh)) (hm : (sh ≠ 5 ∧ sh ≠ 6) ∨ v.m.memory ≠ []) (ha : sh ≠ 5 ∨ x.a ≤ reachOf x.op) : Eff v x ps rs := by
  intro st fs f hf hh
  have h1 : (!v.m.memory.isEmpty || (sh != 5 && sh != 6)) = true := by
    rcases hm with ⟨h1, h2⟩ | h1
    · simp [h1, h2]
    · simp [h1]
  have h2 : (sh != 5 || decide (x.a ≤ reachOf x.op)) = true := by
    rcases ha with h1 | h1
    · simp [h1]
    · simp [h1]
  rw [step_dflt h hs, want_true h1, want_true h2, take_eq hf hh]
  rfl
theorem step_32 {v : Vn} {x : InsL} (h : x.op = 32) (c : Ck) : stepC v x c = putC (localC v x.a.toNat c).2 (localC v x.a.toNat c).1 := by
  unfold stepC
  rw [control_none (by omega)]
  dsimp only
  rw [if_neg (by omega), if_neg (by omega), if_neg (by omega), if_pos h]
theorem step_33 {v : Vn} {x : InsL} (h : x.op = 33) (c : Ck) : stepC v x c = takeC (localC v x.a.toNat c).2 (localC v x.a.toNat c).1 := by
  unfold stepC
  rw [control_none (by omega)]
  dsimp only
  rw [if_neg (by omega), if_neg (by omega), if_neg (by omega), if_neg (by omega), if_pos h]
theorem step_34 {v : Vn} {x : InsL} (h : x.op = 34) (c : Ck) : stepC v x c = putC (localC v x.a.toNat c).2 (takeC (localC v x.a.toNat c).2 (localC v x.a.toNat c).1) := by
  unfold stepC
  rw [control_none (by omega)]
  dsimp only
  rw [if_neg (by omega), if_neg (by omega), if_neg (by omega), if_neg (by omega), if_neg (by omega), if_pos h]
theorem step_35 {v : Vn} {x : InsL} (h : x.op = 35) (c : Ck) : stepC v x c = putC (globalC v x.a.toNat false c).2 (globalC v x.a.toNat false c).1 := by
  unfold stepC
  rw [control_none (by omega)]
  dsimp only
  rw [if_neg (by omega), if_neg (by omega), if_neg (by omega), if_neg (by omega), if_neg (by omega), if_neg (by omega), if_pos h]
theorem step_36 {v : Vn} {x : InsL} (h : x.op = 36) (c : Ck) : stepC v x c = takeC (globalC v x.a.toNat true c).2 (globalC v x.a.toNat true c).1 := by
  unfold stepC
  rw [control_none (by omega)]
  dsimp only
  rw [if_neg (by omega), if_neg (by omega), if_neg (by omega), if_neg (by omega), if_neg (by omega), if_neg (by omega), if_neg (by omega), if_pos h]
theorem step_26 {v : Vn} {x : InsL} (h : x.op = 26) (c : Ck) : stepC v x c = (popC c).1 := by
  unfold stepC
  rw [control_none (by omega)]
  dsimp only
  rw [if_neg (by omega), if_pos h]
theorem local_eq {v : Vn} {n : Nat} {b : UInt8} (h : v.locals[n]? = some b) (c : Ck) : localC v n c = (c, [b]) := by
  unfold localC
  rw [h]
  rfl
theorem global_eq {v : Vn} {n : Nat} {g : GlobP} (h : v.m.globals[n]? = some g) {set : Bool} (hs : (g.mut_ || !set) = true) (c : Ck) : globalC v n set c = (c, [UInt8.ofNat (g.ty % 256).toNat]) := by
  unfold globalC
  rw [h]
  show (wantC c (g.mut_ || !set), _) = _
  rw [want_true hs]
theorem eff_get {v : Vn} {x : InsL} {b : UInt8} (ho : x.op = 32) (h : v.locals[x.a.toNat]? = some b) : Eff v x [] [b] := by
  intro st fs f hf hh
  rw [step_32 ho, local_eq h]
  simp [putC]
theorem eff_set {v : Vn} {x : InsL} {b : UInt8} (ho : x.op = 33) (h : v.locals[x.a.toNat]? = some b) : Eff v x [b] [] := by
  intro st fs f hf hh
  rw [step_33 ho, local_eq h, take_eq hf hh, List.append_nil]
theorem eff_tee {v : Vn} {x : InsL} {b : UInt8} (ho : x.op = 34) (h : v.locals[x.a.toNat]? = some b) : Eff v x [b] [b] := by
  intro st fs f hf hh
  rw [step_34 ho, local_eq h, take_eq hf hh]
  rfl
theorem eff_gget {v : Vn} {x : InsL} {g : GlobP} (ho : x.op = 35) (h : v.m.globals[x.a.toNat]? = some g) : Eff v x [] [UInt8.ofNat (g.ty % 256).toNat] := by
  intro st fs f hf hh
  rw [step_35 ho, global_eq h (by simp)]
  simp [putC]
theorem eff_gset {v : Vn} {x : InsL} {g : GlobP} (ho : x.op = 36) (h : v.m.globals[x.a.toNat]? = some g) (hm : g.mut_ = true) : Eff v x [UInt8.ofNat (g.ty % 256).toNat] [] := by
  intro st fs f hf hh
  rw [step_36 ho, global_eq h (by simp [hm]), take_eq hf hh, List.append_nil]
theorem eff_drop {v : Vn} {x : InsL} (ho : x.op = 26) (t : UInt8) : Eff v x [t] [] := by
  intro st fs f hf hh
  rw [step_26 ho, pop_eq hf hh, List.append_nil]
theorem step_brif {v : Vn} {x : InsL} (ho : x.op = 13) {st : List UInt8} {fs : List Fr} {f : Fr} (hf : fs.getLast? = some f) (hh : f.height ≤ st.length) (hl : labelL fs x.a.toNat = some []) : stepC v x ⟨st ++ [127], fs, false⟩ = ⟨st, fs, false⟩ := by
  unfold stepC controlC
  rw [if_neg (by omega), if_neg (by omega), if_neg (by omega), if_neg (by omega), if_neg (by omega), if_neg (by omega), if_pos ho, take_eq hf hh]
  unfold labelC
  dsimp only
  rw [hl]
  simp [orBad, putC, takeC, takeR]
theorem step_open {v : Vn} {x : InsL} (ho : x.op = 2 ∨ x.op = 3) (c : Ck) : stepC v x c = openC x.op x.a c := by
  unfold stepC controlC
  rw [if_neg (by omega), if_pos ho]
theorem step_if {v : Vn} {x : InsL} (ho : x.op = 4) (c : Ck) : stepC v x c = openC 4 x.a (takeC [127] c) := by
  unfold stepC controlC
  rw [if_neg (by omega), if_neg (by omega), if_pos ho]
theorem getLast_snoc {α : Type} (l : List α) (x : α) : (l ++ [x]).getLast? = some x := by simp
theorem shut_eq {st : List UInt8} {fs : List Fr} {f : Fr} (hh : f.height = st.length) : shutC f ⟨st ++ f.result, fs ++ [f], false⟩ = ⟨st, fs ++ [f], false⟩ := by
  unfold shutC
  rw [take_eq (getLast_snoc fs f) (by omega)]
  simp [wantC, hh]
theorem step_else {v : Vn} {x : InsL} (ho : x.op = 5) {st : List UInt8} {fs : List Fr} {f : Fr} (hh : f.height = st.length) : stepC v x ⟨st ++ f.result, fs ++ [f], false⟩ = ⟨st, fs ++ [{ f with op := 5, dead := false }], false⟩ := by
  unfold stepC controlC
  rw [if_neg (by omega), if_neg (by omega), if_neg (by omega), if_pos ho]
  simp only [getLast_snoc, shut_eq hh]
  simp [setTop]
theorem step_end {v : Vn} {x : InsL} (ho : x.op = 11) {st : List UInt8} {fs : List Fr} {f : Fr} (hh : f.height = st.length) (h4 : (f.op != 4 || f.result.isEmpty) = true) : stepC v x ⟨st ++ f.result, fs ++ [f], false⟩ = ⟨st ++ f.result, fs, false⟩ := by
  unfold stepC controlC
  rw [if_neg (by omega), if_neg (by omega), if_neg (by omega), if_neg (by omega), if_pos ho]
  simp only [getLast_snoc, shut_eq hh, want_true h4]
  simp [putC]
end Go.Proofs.YtmbgemcddjailaaGreatDoor.Vld
