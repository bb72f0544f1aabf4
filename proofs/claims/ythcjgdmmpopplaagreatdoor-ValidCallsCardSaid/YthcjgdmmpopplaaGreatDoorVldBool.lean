/-
  A slice of Bools that came in, read. No condition beyond what each theorem names.
-/
import Derived.Test.YthcjgdmmpopplaaGreatDoorModOpen
namespace Go.Proofs.YthcjgdmmpopplaaGreatDoor.Mod
open Go.RowKit Go.Maps Go.Proofs.YthcjgdmmpopplaaGreatDoor.Op Go.Proofs.YthcjgdmmpopplaaGreatDoor.Pg Go.ChangeShapes Go.WideShapes Go.Deep
set_option linter.unusedVariables false
def BoolsAt (w : World) (v : Value) (bs : List Bool) : Prop := ∃ la c, v = .slice la bs.length c ∧ bs.length ≤ 9223372036854775807 ∧ ∀ i b, bs[i]? = some b → ∃ g off, la = some ⟨g, off, none⟩ ∧ w.cell? ⟨g, off + i, none⟩ = some (.bool b)
section
variable {H : Type} {enc : TypeId × Value → H} {w : World} {base : Nat} {spare : Nat → Bool} {held : Bool}
theorem bools_open {t e : TypeId} {fuel : Nat} {la : Option Addr} {len cap : Nat} {x : DataW H × List MemPlace} (ht : Tryz.prog.underlying t = some (.slice e)) (he : Tryz.prog.underlying e = some .bool) (hc : Tryz.prog.cellsOf e = 1)
    (h : DataW.trod enc Tryz.prog w base spare held fuel t [.slice la len cap] = some x) (hw : Light x.1 t) : ∃ bs, BoolsAt w (.slice la len cap) bs := by
  obtain ⟨rows, hr, hl, _, _, hp⟩ := rows_open ht hc (by decide) h hw
  obtain ⟨bs, hz1, hz2⟩ := choose_rows (Q := fun i (b : Bool) => rows[i]? = some [.bool b]) len (fun i hi => by
    have hri := List.getElem?_eq_getElem (show i < rows.length by omega)
    obtain ⟨n, y, hy, _⟩ := hp i _ hri
    obtain ⟨b, e0, _⟩ := DataW.trod_bool he hy
    exact ⟨b, by rw [hri, e0]⟩)
  obtain ⟨la', c', hv, hle, hq⟩ := hr
  simp only [Value.slice.injEq] at hv
  obtain ⟨rfl, _, rfl⟩ := hv
  refine ⟨bs, ⟨la, cap, by rw [hz1], by rw [hz1]; omega, fun i b hi => ?_⟩⟩
  obtain ⟨_, g, off, rfl, _, hcell⟩ := hq i _ (hz2 i b hi)
  have := hcell 0 _ rfl
  rw [Nat.mul_one, Nat.add_zero] at this
  exact ⟨g, off, rfl, this⟩
end
end Go.Proofs.YthcjgdmmpopplaaGreatDoor.Mod
