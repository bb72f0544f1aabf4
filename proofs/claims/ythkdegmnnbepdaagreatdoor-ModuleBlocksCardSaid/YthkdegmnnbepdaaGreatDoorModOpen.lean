/-
  Slices that came in, read as rows. No condition beyond what each theorem names.
-/
import Derived.Test.YthkdegmnnbepdaaGreatDoorModBlocks
import Derived.Deep.Slices
import Derived.Deep.Fields
import Derived.Deep.Strs
import Derived.Lib.SmallJoins
import Derived.SizedLaws
namespace Go.Proofs.YthkdegmnnbepdaaGreatDoor.Mod
open Go.RowKit Go.Maps Go.Proofs.YthkdegmnnbepdaaGreatDoor.Op Go.Proofs.YthkdegmnnbepdaaGreatDoor.Pg Go.ChangeShapes Go.WideShapes Go.Deep
set_option linter.unusedVariables false
theorem choose_rows {α : Type} {Q : Nat → α → Prop} : ∀ n, (∀ i, i < n → ∃ d, Q i d) → ∃ l : List α, l.length = n ∧ ∀ i d, l[i]? = some d → Q i d
  | 0, _ => ⟨[], rfl, fun i d h => by simp at h⟩
  | n + 1, h => by
    obtain ⟨l, hl, hp⟩ := choose_rows n (fun i hi => h i (by omega))
    obtain ⟨d, hd⟩ := h n (by omega)
    refine ⟨l ++ [d], by simp [hl], fun i e hi => ?_⟩
    by_cases hi2 : i < l.length
    · rw [List.getElem?_append_left hi2] at hi
      exact hp i e hi
    · have hlt := (List.getElem?_eq_some_iff.1 hi).1
      simp at hlt
      obtain rfl : i = l.length := by omega
      simp at hi
      rw [← hi, hl]
      exact hd
section
variable {H : Type} {enc : TypeId × Value → H} {w : World} {base : Nat} {spare : Nat → Bool} {held : Bool}
/-- a datum whose pieces have room -/
def Light (d : DataW H) (t : TypeId) : Prop := ∀ n ∈ d.weights Tryz.prog t, n ≤ reachBytes
theorem weightsAll_mem {e : TypeId} : ∀ {l : List (DataW H)} {d : DataW H}, d ∈ l → ∀ n ∈ d.weights Tryz.prog e, n ∈ DataW.weightsAll Tryz.prog e l
  | x :: l, d, hd, n, hn => by
    rw [DataW.weightsAll]
    rcases List.mem_cons.1 hd with rfl | hd
    · exact List.mem_append_left _ hn
    · exact List.mem_append_right _ (weightsAll_mem hd n hn)
theorem rows_open {t e : TypeId} {size : Nat} {fuel : Nat} {la : Option Addr} {len cap : Nat} {x : DataW H × List MemPlace} (ht : Tryz.prog.underlying t = some (.slice e)) (hc : Tryz.prog.cellsOf e = size) (hs : 0 < size)
    (h : DataW.trod enc Tryz.prog w base spare held fuel t [.slice la len cap] = some x) (hw : Light x.1 t) :
    ∃ rows : List (List Value), RowAt w size (.slice la len cap) rows ∧ rows.length = len ∧ len * Tryz.prog.bytesOf e ≤ reachBytes ∧ ∀ (i : Nat) r, rows[i]? = some r → ∃ n y, DataW.trod enc Tryz.prog w base spare held n e r = some y ∧ Light y.1 e := by
  rcases open_slice ht h with ⟨hcs, _⟩ | ⟨a, len', cap', m, n, D, Pl, hcs, _, hl, hm, hmm, hxe, hx⟩
  · simp only [List.cons.injEq, Value.slice.injEq, and_true] at hcs
    obtain ⟨rfl, rfl, rfl⟩ := hcs
    exact ⟨[], ⟨none, 0, rfl, Nat.zero_le _, fun i r hi => by simp at hi⟩, rfl, by simp, fun i r hi => by simp at hi⟩
  · simp only [List.cons.injEq, Value.slice.injEq, and_true] at hcs
    obtain ⟨rfl, rfl, rfl⟩ := hcs
    have hle : len ≤ m := by rw [hmm]; split <;> omega
    have hw2 : ∀ k ∈ (DataW.slice ((List.range len).map D) ((List.range (m - len)).map fun j => D (len + j))).weights Tryz.prog t, k ≤ reachBytes := by
      have := hw
      unfold Light at this
      rw [hxe] at this
      exact this
    have hlen : len * Tryz.prog.bytesOf e ≤ reachBytes := by
      have h1 := hw2 (((List.range len).map D).length + ((List.range (m - len)).map fun j => D (len + j)).length |>.mul (Tryz.prog.bytesOf e)) (by rw [DataW.weights, ht]; exact List.mem_cons_self)
      refine Nat.le_trans (Nat.mul_le_mul_right _ ?_) h1
      rw [List.length_map, List.length_range]
      omega
    by_cases hl0 : len = 0
    · subst hl0
      exact ⟨[], ⟨some a, cap, rfl, Nat.zero_le _, fun i r hi => by simp at hi⟩, rfl, hlen, fun i r hi => by simp at hi⟩
    · obtain ⟨b, off, spot⟩ := a
      have hspot : spot = none ∧ b < w.heap.size := by
        obtain ⟨cs', h1, h2⟩ := hx 0 (by omega)
        rw [hc] at h1
        obtain ⟨_, hsz, hat⟩ := World.cells?_some h1
        have h00 := hat 0 hs
        rw [Nat.zero_mul, show ((⟨b, off, spot⟩ : Addr).add 0).add 0 = ⟨b, off, spot⟩ by simp [Addr.add]] at h00
        rw [List.getElem?_eq_getElem (by omega)] at h00
        exact ⟨World.cell?_spot h00, World.block_lt_of_cell? _ _ h00⟩
      obtain ⟨rfl, hbl⟩ := hspot
      obtain ⟨rows, hrl, hp⟩ := choose_rows (Q := fun i (r : List Value) => r.length = size ∧ (∀ j u, r[j]? = some u → w.cell? ⟨b, off + i * size + j, none⟩ = some u) ∧ ∃ n y, DataW.trod enc Tryz.prog w base spare held n e r = some y ∧ Light y.1 e) len (fun i hi => by
        obtain ⟨cs', h1, h2⟩ := hx i (by omega)
        rw [hc] at h1
        obtain ⟨_, hsz, hat⟩ := World.cells?_some h1
        refine ⟨cs', hsz, fun j u hj => ?_, n, _, h2, fun k hk => hw2 k ?_⟩
        · have hlt := (List.getElem?_eq_some_iff.1 hj).1
          have := hat j (by omega)
          rw [Addr.add_lit, Addr.add_lit, hj] at this
          exact this
        · rw [DataW.weights, ht]
          refine List.mem_cons_of_mem _ (List.mem_append_left _ (weightsAll_mem (d := D i) (List.mem_map.2 ⟨i, List.mem_range.2 hi, rfl⟩) k hk)))
      refine ⟨rows, ⟨some ⟨b, off, none⟩, cap, by rw [hrl], by rw [hrl]; unfold maxLen at hm; omega, fun i r hi => ?_⟩, hrl, hlen, fun i r hi => (hp i r hi).2.2⟩
      obtain ⟨h1, h3, _⟩ := hp i r hi
      exact ⟨h1, b, off, rfl, hbl, h3⟩
/-- a slice of numbers -/
theorem nums_open {t e : TypeId} {k : IntKind} {fuel : Nat} {la : Option Addr} {len cap : Nat} {x : DataW H × List MemPlace} (ht : Tryz.prog.underlying t = some (.slice e)) (he : Tryz.prog.underlying e = some (.int k)) (hc : Tryz.prog.cellsOf e = 1)
    (h : DataW.trod enc Tryz.prog w base spare held fuel t [.slice la len cap] = some x) (hw : Light x.1 t) : ∃ zs, NumsAt k w (.slice la len cap) zs ∧ ∀ z ∈ zs, (Lit.int k z).wf = true := by
  obtain ⟨rows, hr, hl, _, hp⟩ := rows_open ht hc (by decide) h hw
  obtain ⟨zs, hz1, hz2⟩ := choose_rows (Q := fun i (z : Int) => rows[i]? = some [.int k z] ∧ (Lit.int k z).wf = true) len (fun i hi => by
    have hri := List.getElem?_eq_getElem (show i < rows.length by omega)
    obtain ⟨n, y, hy, _⟩ := hp i _ hri
    obtain ⟨z, e0, _, w0⟩ := DataW.trod_int he hy
    exact ⟨z, by rw [hri, e0], w0⟩)
  obtain ⟨la', c', hv, hle, hq⟩ := hr
  simp only [Value.slice.injEq] at hv
  obtain ⟨rfl, _, rfl⟩ := hv
  refine ⟨zs, ⟨la, cap, by rw [hz1], by rw [hz1]; omega, fun i z hi => ?_⟩, fun z hz => ?_⟩
  · obtain ⟨h1, _⟩ := hz2 i z hi
    obtain ⟨_, b, off, rfl, _, hcell⟩ := hq i _ h1
    have := hcell 0 _ rfl
    rw [Nat.mul_one, Nat.add_zero] at this
    exact ⟨b, off, rfl, this⟩
  · obtain ⟨i, hi⟩ := List.getElem?_of_mem hz
    exact (hz2 i z hi).2
theorem nums_u8 {w : World} {v : Value} {zs : List Int} (h : NumsAt .u8 w v zs) (hw : ∀ z ∈ zs, (Lit.int .u8 z).wf = true) : ∃ xs : List Nat, NumsAt .u8 w v (xs.map fun (x : Nat) => (x : Int)) ∧ ∀ x ∈ xs, x < 256 := by
  refine ⟨zs.map Int.toNat, ?_, fun x hx => ?_⟩
  · rw [List.map_map, show zs.map ((fun (x : Nat) => (x : Int)) ∘ Int.toNat) = zs from ?_]
    · exact h
    · refine (List.map_congr_left (fun z hz => ?_)).trans (List.map_id zs)
      have := Go.bounds_u8 (hw z hz)
      show ((z.toNat : Nat) : Int) = id z
      simp
      omega
  · obtain ⟨z, hz, rfl⟩ := List.mem_map.1 hx
    have := Go.bounds_u8 (hw z hz)
    omega
end
end Go.Proofs.YthkdegmnnbepdaaGreatDoor.Mod
