/-
  Bytes that a call gathers in a slice of its own, and the string made of them. No condition beyond what each theorem names.
-/
import Derived.WalkKit
namespace Go.Proofs.Ytckigiemeimheaa.Bytes
open Go.RowKit

/-- the cells that hold some bytes -/
def cellsOf (l : List UInt8) : List Value := l.map fun b => .int .u8 (b.toNat : Int)

theorem cellsOf_append (l r : List UInt8) : cellsOf (l ++ r) = cellsOf l ++ cellsOf r := by simp [cellsOf]
theorem cellsOf_one (b : UInt8) : cellsOf [b] = [.int .u8 (b.toNat : Int)] := rfl
theorem cellsOf_length (l : List UInt8) : (cellsOf l).length = l.length := by simp [cellsOf]

/-- 'string(bytes)' of a slice of the call's own -/
theorem run_convert_own {P : Program} {w : World} {base e src dst n : Nat} {v : Value} {l : List UInt8} (hs : P.underlying src = some (.slice e)) (he : P.underlying e = some (.int .u8))
    (hd : P.underlying dst = some .string) (hown : w.ownsRow base e 1 v n (cellsOf l)) : (convert src dst v).run P w = .ok (.string ⟨l.toArray⟩) w := by
  have hn : l.length = n := by have := hown.1; simpa [cellsOf] using this
  rcases hown.2 with ⟨rfl, h0⟩ | ⟨g, cap, cur, rfl, hb, hg, hnc, hcm, hcs, htake⟩
  · have : l = [] := List.eq_nil_of_length_eq_zero (by omega)
    subst this
    exact run_convert_bytes_nil w src e hs he 0 0 dst hd
  · have hown' : w.ownsRow base e 1 (.slice (some ⟨g, 0, none⟩) n cap) n (cellsOf l) := hown
    have h := run_convert_bytes_arg w src e hs he g 0 n cap (l.map fun b => (b.toNat : Int)) (by simpa using hn) (fun i hi => by
      rw [Nat.zero_add, hown'.cellAt i (by omega)]
      have hi' : i < l.length := by omega
      simp [cellsOf, List.getElem?_eq_getElem hi', List.getD]) dst hd
    rw [h]
    congr 2
    simp only [strOfNums, List.map_map]
    congr 2
    have : ((fun n : Int => UInt8.ofNat n.toNat) ∘ fun b : UInt8 => (b.toNat : Int)) = id := by funext b; simp
    rw [this, List.map_id]
end Go.Proofs.Ytckigiemeimheaa.Bytes
