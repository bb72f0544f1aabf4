/-
  Words for chapter 10's walks of laws. No condition beyond what each theorem names.
-/
import Derived.Test.YtafnjkeljjeamaaDoorValTypes
import Derived.Test.YtafnjkeljjeamaaDoorWf
namespace Go.Proofs.YtafnjkeljjeamaaDoor.Val
open Go.RowKit Go.Maps Go.Lib
set_option linter.unusedVariables false
set_option linter.unusedSimpArgs false
theorem bj {w w1 w2 : World} (C : Below w.heap.size w w1) (c : Below w1.heap.size w1 w2) : Below w.heap.size w w2 := C.trans (c.mono C.size)
theorem ba {w w1 : World} (C : Below w.heap.size w w1) (o : Obj) : Below w.heap.size w (w1.alloc o) := C.alloc C.size o
theorem past1 {w : World} (o : Obj) {b j : Nat} {v : Value} (h : w.cell? ⟨b, j, none⟩ = some v) : (w.alloc o).cell? ⟨b, j, none⟩ = some v := (World.cell?_alloc_past _ _ _ (World.block_lt_of_cell? _ _ h)).trans h
def NumK (s : UInt8) (k sc : Int) : Prop := ∀ W, Calls Tryd.prog 19 #[.int .u8 (s.toNat : Int)] W fun e w' => e = .returned (.agg #[.int .i64 k, .int .i64 sc]) ∧ Below W.heap.size W w'
def AK (op a b t u : Value) (rb : Bool) (rn : Int) (rS : ByteArray) (e1 : Int) : Prop := ∀ W, Calls Tryd.prog 21 #[op, a, b, t, u] W fun e w' => e = .returned (.tuple #[.agg #[.bool rb, .int .i64 rn, .string rS], .int .i64 e1]) ∧ Below W.heap.size W w'
def CK (a b t u : Value) (c : Int) : Prop := ∀ W, Calls Tryd.prog 25 #[a, b, t, u] W fun e w' => e = .returned (.tuple #[.int .i64 c, .bool true]) ∧ Below W.heap.size W w'
theorem u8_of {a : Int} (h : (Lit.int .u8 a).wf = true) : ∃ o : UInt8, a = (o.toNat : Int) := by
  have := Wf.u8 h
  refine ⟨UInt8.ofNat a.toNat, ?_⟩
  show a = ((a.toNat % 256 : Nat) : Int)
  omega
theorem i64_of {a : Int} (h : (Lit.int .i64 a).wf = true) : I64 a := by have := Wf.i64 h; unfold I64; omega
theorem cmpI_wrap (x y : Int) : IntKind.i64.wrap (- -cmpI x y) = cmpI x y := by
  unfold cmpI
  split
  · decide
  · split <;> decide
theorem cmpI_wrap1 (x y : Int) : IntKind.i64.wrap (-cmpI x y) = -cmpI x y := by
  unfold cmpI
  split
  · decide
  · split <;> decide
end Go.Proofs.YtafnjkeljjeamaaDoor.Val
