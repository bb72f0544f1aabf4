/-
  The world for the witness of chapter 5's cards: the listed variables hold what their initialisers lay. No condition beyond what each theorem names.
-/
import Derived.Test.YteidhccnbfikcaaGreatDoorRows
import Derived.Test.YteidhccnbfikcaaGreatDoorShelf
import Derived.Deep.DeepLaidRun
import Derived.Lib.LaidTab
import Derived.Lib.LaidRTab
import Derived.Lib.LaidPrint
import Derived.PinnedBridge
import Derived.ProofKit
namespace Go.Proofs.YteidhccnbfikcaaGreatDoor.Mod
open Go.RowKit
set_option linter.unusedVariables false
noncomputable def laidWorld (os : Os) : World :=
  let N := (World.settled Tryz.prog os).heap.size
  let w0 := World.holding Tryz.prog os ⟨#[.cells (Lib.whiteT.map fun (z : Nat) => Value.int .u16 (z : Int)).toArray 305, .cells #[.slice (some ⟨N, 0, none⟩) 7 7, .slice none 0 0, .int .i64 2] 302], #[], []⟩
  let put (h : Array Obj) (g : Nat) (cs : Array Value) : Array Obj := h.modify g fun
    | .cells _ t frozen => .cells cs t frozen
    | o => o
  let h4 := put w0.heap 1 ((List.range 16).flatMap fun i => [Value.int .u8 (Lib.accLo i), Value.int .u8 (Lib.accHi i)]).toArray
  let h5 := put h4 2 (Lib.asciiSpaceTab.map fun z => Value.int .u8 z).toArray
  let h6 := put h5 0 (Lib.firstTab.map fun z => Value.int .u8 z).toArray
  { w0 with heap := put h6 3 #[.pointer (some ⟨N + 1, 0, none⟩)] }
theorem laid_met (os : Os) (args : Array Value) : laidMet Tryz.prog Rows.encWritesRow.laid ((laidWorld os).forCall (fun _ _ => 0) ⟨#[], args, []⟩).memory :=
  laidMet_of_run3 10 (by kernel_rfl) (by kernel_rfl) (by kernel_rfl)
end Go.Proofs.YteidhccnbfikcaaGreatDoor.Mod
