/-
  What is kept of codes is what is known of them: the map of infos. Plain but for the shape of memory.
-/
import Derived.Test.YteidhccnbfikcaaGreatDoorModMem
import Derived.Test.YteidhccnbfikcaaGreatDoorOpTable
namespace Go.Proofs.YteidhccnbfikcaaGreatDoor.Enc
open Go.RowKit Go.Maps Go.Proofs.YteidhccnbfikcaaGreatDoor.Op Go.Proofs.YteidhccnbfikcaaGreatDoor.Mod
set_option linter.unusedVariables false
/-- what is kept of codes is what is known of them -/
def InfosOk (D : DataW Value) : Prop := IsMap D ∧ ∀ (code : Int) (z : DataW Value), Maps.has D (.int .i64 code) = true → D.atKey (.int .i64 code) z = .held ((opInfo code).getD zeroI).toV
def InfosAt (w : World) (mb : Nat) (k : Nat) : Prop := ∃ n D, w.ownsMap Tryz.prog 3 asIs mb n D ∧ InfosOk D ∧ n ≤ k
theorem infos_block {w : World} {mb k : Nat} (h : InfosAt w mb k) : ∃ es cl, w.heap[mb]? = some (.map es cl) := by
  obtain ⟨n, D, ⟨es, clock, hb, _⟩, _⟩ := h
  exact ⟨es, clock, hb⟩
theorem infos_lt {w : World} {mb k : Nat} (h : InfosAt w mb k) : mb < w.heap.size := by
  obtain ⟨es, cl, hb⟩ := infos_block h
  exact (Array.getElem?_eq_some_iff.1 hb).1
theorem InfosAt.of {w w' : World} {mb k : Nat} (h : InfosAt w mb k) (he : w'.heap[mb]? = w.heap[mb]?) : InfosAt w' mb k := by
  obtain ⟨n, D, h1, h2⟩ := h
  exact ⟨n, D, ownsMap_of h1 he, h2⟩
theorem InfosAt.mono {w : World} {mb k k' : Nat} (h : InfosAt w mb k) (hk : k ≤ k') : InfosAt w mb k' := by
  obtain ⟨n, D, h1, h2, h3⟩ := h
  exact ⟨n, D, h1, h2, Nat.le_trans h3 hk⟩
theorem InfosAt.later {w w' : World} {mb k : Nat} (h : InfosAt w mb k) (hb : Below w.heap.size w w') : InfosAt w' mb k := h.of (hb.block mb (infos_lt h))
theorem infos_put {D : DataW Value} (h : InfosOk D) (code : Int) : InfosOk (D.put (.int .i64 code) (.held ((opInfo code).getD zeroI).toV)) := by
  obtain ⟨hD, hA⟩ := h
  refine ⟨by obtain ⟨es, rfl⟩ := hD; exact ⟨_, rfl⟩, fun m z hm => ?_⟩
  by_cases he : m = code
  · subst he
    exact atKey_put_same (k := .int .i64 m) hD (by simp [WideAt.IsKeyLit]) _ _
  · have hne : (Lit.int .i64 m) ≠ .int .i64 code := fun e => he (by simpa using e)
    rw [has_put_other hne] at hm
    rw [atKey_put_other hne]
    exact hA m z hm
end Go.Proofs.YteidhccnbfikcaaGreatDoor.Enc
