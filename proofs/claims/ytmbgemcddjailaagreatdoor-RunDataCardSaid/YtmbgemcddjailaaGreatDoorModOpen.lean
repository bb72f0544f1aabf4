/-
  Slices that came in, read as rows. No condition beyond what each theorem names.
-/
import Derived.Test.YtmbgemcddjailaaGreatDoorPgS
import Derived.Deep.Slices
import Derived.Deep.Fields
import Derived.Deep.Strs
import Derived.Lib.SmallJoins
import Derived.SizedLaws
namespace Go.Proofs.YtmbgemcddjailaaGreatDoor.Mod
open Go.RowKit Go.Maps Go.Proofs.YtmbgemcddjailaaGreatDoor.Op Go.Proofs.YtmbgemcddjailaaGreatDoor.Pg Go.ChangeShapes Go.WideShapes Go.Deep
set_option linter.unusedVariables false
/-- a slice of integers of some kind -/
def NumsAt (k : IntKind) (w : World) (v : Value) (zs : List Int) : Prop := ∃ la c, v = .slice la zs.length c ∧ zs.length ≤ 9223372036854775807 ∧ ∀ i z, zs[i]? = some z → ∃ b off, la = some ⟨b, off, none⟩ ∧ w.cell? ⟨b, off + i, none⟩ = some (.int k z)
theorem choose_rows {α : Type} {Q : Nat → α → Prop} : ∀ n, (∀ i, i < n → ∃ d, Q i d) → ∃ l : List α, l.length = n ∧ ∀ i d, l[i]? = some d → Q i d
  | 0, _ => ⟨[], rfl, fun i d h => by simp at h⟩
  | n + 1, h => by
    obtain ⟨l, hl, hp⟩ := choose_rows n (fun i hi => h i (by omega))
    obtain ⟨d, hd⟩ := h n (by omega)
    refine ⟨l ++ [d], by simp [hl], fun i e hi => ?_⟩
    by_cases hi2 : i < l.length
    · rw [List.getElem?_append_left hi2] at hi
      exact hp i e hi
    · have hlt := (List.getElem?_eq_some_iff.1 hi).1
      simp at hlt
      obtain rfl : i = l.length := by omega
      simp at hi
      rw [← hi, hl]
      exact hd
section
variable {H : Type} {enc : TypeId × Value → H} {w : World} {base : Nat} {spare : Nat → Bool} {held : Bool}
/-- a datum whose pieces have room -/
def Light (d : DataW H) (t : TypeId) : Prop := ∀ n ∈ d.weights Tryz.prog t, n ≤ reachBytes
theorem weightsAll_mem {e : TypeId} : ∀ {l : List (DataW H)} {d : DataW H}, d ∈ l → ∀ n ∈ d.weights Tryz.prog e, n ∈ DataW.weightsAll Tryz.prog e l
  | x :: l, d, hd, n, hn => by
    rw [DataW.weightsAll]
    rcases List.mem_cons.1 hd with rfl | hd
    · exact List.mem_append_left _ hn
    · exact List.mem_append_right _ (weightsAll_mem hd n hn)
theorem rows_open {t e : TypeId} {size : Nat} {fuel : Nat} {la : Option Addr} {len cap : Nat} {x : DataW H × List MemPlace} (ht : Tryz.prog.underlying t = some (.slice e)) (hc : Tryz.prog.cellsOf e = size) (hs : 0 < size)
    (h : DataW.trod enc Tryz.prog w base spare held fuel t [.slice la len cap] = some x) (hw : Light x.1 t) :
    ∃ rows : List (List Value), RowAt w size (.slice la len cap) rows ∧ rows.length = len ∧ len ≤ cap ∧ len * Tryz.prog.bytesOf e ≤ reachBytes ∧ ∀ (i : Nat) r, rows[i]? = some r → ∃ n y, DataW.trod enc Tryz.prog w base spare held n e r = some y ∧ Light y.1 e := by
  rcases open_slice ht h with ⟨hcs, _⟩ | ⟨a, len', cap', m, n, D, Pl, hcs, _, hl, hm, hmm, hxe, hx⟩
  · simp only [List.cons.injEq, Value.slice.injEq, and_true] at hcs
    obtain ⟨rfl, rfl, rfl⟩ := hcs
    exact ⟨[], ⟨none, 0, rfl, Nat.zero_le _, fun i r hi => by simp at hi⟩, rfl, Nat.le_refl _, by simp, fun i r hi => by simp at hi⟩
  · simp only [List.cons.injEq, Value.slice.injEq, and_true] at hcs
    obtain ⟨rfl, rfl, rfl⟩ := hcs
    have hle : len ≤ m := by rw [hmm]; split <;> omega
    have hw2 : ∀ k ∈ (DataW.slice ((List.range len).map D) ((List.range (m - len)).map fun j => D (len + j))).weights Tryz.prog t, k ≤ reachBytes := by
      have := hw
      unfold Light at this
      rw [hxe] at this
      exact this
    have hlen : len * Tryz.prog.bytesOf e ≤ reachBytes := by
      have h1 := hw2 (((List.range len).map D).length + ((List.range (m - len)).map fun j => D (len + j)).length |>.mul (Tryz.prog.bytesOf e)) (by rw [DataW.weights, ht]; exact List.mem_cons_self)
      refine Nat.le_trans (Nat.mul_le_mul_right _ ?_) h1
      rw [List.length_map, List.length_range]
      omega
    by_cases hl0 : len = 0
    · subst hl0
      exact ⟨[], ⟨some a, cap, rfl, Nat.zero_le _, fun i r hi => by simp at hi⟩, rfl, hl, hlen, fun i r hi => by simp at hi⟩
    · obtain ⟨b, off, spot⟩ := a
      have hspot : spot = none ∧ b < w.heap.size := by
        obtain ⟨cs', h1, h2⟩ := hx 0 (by omega)
        rw [hc] at h1
        obtain ⟨_, hsz, hat⟩ := World.cells?_some h1
        have h00 := hat 0 hs
        rw [Nat.zero_mul, show ((⟨b, off, spot⟩ : Addr).add 0).add 0 = ⟨b, off, spot⟩ by simp [Addr.add]] at h00
        rw [List.getElem?_eq_getElem (by omega)] at h00
        exact ⟨World.cell?_spot h00, World.block_lt_of_cell? _ _ h00⟩
      obtain ⟨rfl, hbl⟩ := hspot
      obtain ⟨rows, hrl, hp⟩ := choose_rows (Q := fun i (r : List Value) => r.length = size ∧ (∀ j u, r[j]? = some u → w.cell? ⟨b, off + i * size + j, none⟩ = some u) ∧ ∃ n y, DataW.trod enc Tryz.prog w base spare held n e r = some y ∧ Light y.1 e) len (fun i hi => by
        obtain ⟨cs', h1, h2⟩ := hx i (by omega)
        rw [hc] at h1
        obtain ⟨_, hsz, hat⟩ := World.cells?_some h1
        refine ⟨cs', hsz, fun j u hj => ?_, n, _, h2, fun k hk => hw2 k ?_⟩
        · have hlt := (List.getElem?_eq_some_iff.1 hj).1
          have := hat j (by omega)
          rw [Addr.add_lit, Addr.add_lit, hj] at this
          exact this
        · rw [DataW.weights, ht]
          refine List.mem_cons_of_mem _ (List.mem_append_left _ (weightsAll_mem (d := D i) (List.mem_map.2 ⟨i, List.mem_range.2 hi, rfl⟩) k hk)))
      refine ⟨rows, ⟨some ⟨b, off, none⟩, cap, by rw [hrl], by rw [hrl]; unfold maxLen at hm; omega, fun i r hi => ?_⟩, hrl, hl, hlen, fun i r hi => (hp i r hi).2.2⟩
      obtain ⟨h1, h3, _⟩ := hp i r hi
      exact ⟨h1, b, off, rfl, hbl, h3⟩
/-- a slice of numbers -/
theorem nums_open {t e : TypeId} {k : IntKind} {fuel : Nat} {la : Option Addr} {len cap : Nat} {x : DataW H × List MemPlace} (ht : Tryz.prog.underlying t = some (.slice e)) (he : Tryz.prog.underlying e = some (.int k)) (hc : Tryz.prog.cellsOf e = 1)
    (h : DataW.trod enc Tryz.prog w base spare held fuel t [.slice la len cap] = some x) (hw : Light x.1 t) : ∃ zs, NumsAt k w (.slice la len cap) zs ∧ ∀ z ∈ zs, (Lit.int k z).wf = true := by
  obtain ⟨rows, hr, hl, _, _, hp⟩ := rows_open ht hc (by decide) h hw
  obtain ⟨zs, hz1, hz2⟩ := choose_rows (Q := fun i (z : Int) => rows[i]? = some [.int k z] ∧ (Lit.int k z).wf = true) len (fun i hi => by
    have hri := List.getElem?_eq_getElem (show i < rows.length by omega)
    obtain ⟨n, y, hy, _⟩ := hp i _ hri
    obtain ⟨z, e0, _, w0⟩ := DataW.trod_int he hy
    exact ⟨z, by rw [hri, e0], w0⟩)
  obtain ⟨la', c', hv, hle, hq⟩ := hr
  simp only [Value.slice.injEq] at hv
  obtain ⟨rfl, _, rfl⟩ := hv
  refine ⟨zs, ⟨la, cap, by rw [hz1], by rw [hz1]; omega, fun i z hi => ?_⟩, fun z hz => ?_⟩
  · obtain ⟨h1, _⟩ := hz2 i z hi
    obtain ⟨_, b, off, rfl, _, hcell⟩ := hq i _ h1
    have := hcell 0 _ rfl
    rw [Nat.mul_one, Nat.add_zero] at this
    exact ⟨b, off, rfl, this⟩
  · obtain ⟨i, hi⟩ := List.getElem?_of_mem hz
    exact (hz2 i z hi).2
theorem nums_u8 {w : World} {v : Value} {zs : List Int} (h : NumsAt .u8 w v zs) (hw : ∀ z ∈ zs, (Lit.int .u8 z).wf = true) : ∃ xs : List Nat, NumsAt .u8 w v (xs.map fun (x : Nat) => (x : Int)) ∧ ∀ x ∈ xs, x < 256 := by
  refine ⟨zs.map Int.toNat, ?_, fun x hx => ?_⟩
  · rw [List.map_map, show zs.map ((fun (x : Nat) => (x : Int)) ∘ Int.toNat) = zs from ?_]
    · exact h
    · refine (List.map_congr_left (fun z hz => ?_)).trans (List.map_id zs)
      have := Go.bounds_u8 (hw z hz)
      show ((z.toNat : Nat) : Int) = id z
      simp
      omega
  · obtain ⟨z, hz, rfl⟩ := List.mem_map.1 hx
    have := Go.bounds_u8 (hw z hz)
    omega
theorem field_one {t : TypeId} (h : Tryz.prog.cellsOf t = 1) {n k : Nat} {cs : List Value} {y : DataW H × List MemPlace} (hy : DataW.trod enc Tryz.prog w base spare held n t ((cs.drop k).take (Tryz.prog.cellsOf t)) = some y) : DataW.trod enc Tryz.prog w base spare held n t ((cs.drop k).take 1) = some y := by rw [h] at hy; exact hy
theorem four_cells {cs : List Value} (h : cs.length = 4) : ∃ c0 c1 c2 c3, cs = [c0, c1, c2, c3] := by
  match cs, h with
  | [c0, c1, c2, c3], _ => exact ⟨c0, c1, c2, c3, rfl⟩
theorem step_open {n : Nat} {r : List Value} {y : DataW H × List MemPlace} (h : DataW.trod enc Tryz.prog w base spare held n 92 r = some y) : ∃ t : Step, isStep w r t ∧ -9223372036854775808 ≤ t.a ∧ t.a ≤ 9223372036854775807 := by
  obtain ⟨y0, y1, y2, y3, m, _, hlen, t0, t1, t2, t3⟩ := Go.Joins.trod_struct4 Tryz.underlying92 h
  obtain ⟨c0, c1, c2, c3, rfl⟩ := four_cells (hlen.trans (by kernel_rfl))
  have u0 : DataW.trod enc Tryz.prog w base spare held m 5 [c0] = some y0 := field_one (k := 0) (cs := [c0, c1, c2, c3]) (by kernel_rfl) t0
  have u1 : DataW.trod enc Tryz.prog w base spare held m 2 [c1] = some y1 := field_one (k := 1) (cs := [c0, c1, c2, c3]) (by kernel_rfl) t1
  have u2 : DataW.trod enc Tryz.prog w base spare held m 2 [c2] = some y2 := field_one (k := 2) (cs := [c0, c1, c2, c3]) (by kernel_rfl) t2
  have u3 : DataW.trod enc Tryz.prog w base spare held m 5 [c3] = some y3 := field_one (k := 3) (cs := [c0, c1, c2, c3]) (by kernel_rfl) t3
  obtain ⟨kd, e0, _, w0⟩ := DataW.trod_int Tryz.underlying5 u0
  obtain ⟨a, e1, _, w1⟩ := DataW.trod_int Tryz.underlying2 u1
  obtain ⟨b, e2, _, w2⟩ := DataW.trod_int Tryz.underlying2 u2
  obtain ⟨op, e3, _, w3⟩ := DataW.trod_int Tryz.underlying5 u3
  have b0 := Go.bounds_u8 w0
  have b1 := Go.bounds_i64 w1
  have b3 := Go.bounds_u8 w3
  simp only [List.cons.injEq, and_true] at e0 e1 e2 e3
  subst e0 e1 e2 e3
  refine ⟨⟨kd.toNat, a, b, op.toNat⟩, ⟨?_, by show kd.toNat < 256; omega, by show op.toNat < 256; omega⟩, b1.1, b1.2⟩
  unfold Step.cells
  dsimp only
  rw [show ((kd.toNat : Nat) : Int) = kd by omega, show ((op.toNat : Nat) : Int) = op by omega]
theorem steps_open {fuel : Nat} {la : Option Addr} {len cap : Nat} {x : DataW H × List MemPlace} (h : DataW.trod enc Tryz.prog w base spare held fuel 85 [.slice la len cap] = some x) (hw : Light x.1 85) :
    ∃ l : List Step, StepsAt w (.slice la len cap) l ∧ (l.length = len ∧ len ≤ cap) ∧ ∀ t ∈ l, -9223372036854775808 ≤ t.a ∧ t.a ≤ 9223372036854775807 := by
  obtain ⟨rows, hr, hl, hcap, _, hp⟩ := rows_open (size := 4) Tryz.underlying85 (by kernel_rfl) (by decide) h hw
  obtain ⟨l, hl2, hq⟩ := choose_rows (Q := fun i (t : Step) => (∀ r, rows[i]? = some r → isStep w r t) ∧ -9223372036854775808 ≤ t.a ∧ t.a ≤ 9223372036854775807) len (fun i hi => by
    have hri := List.getElem?_eq_getElem (show i < rows.length by omega)
    obtain ⟨n, y, hy, _⟩ := hp i _ hri
    obtain ⟨t, h1, h2⟩ := step_open hy
    exact ⟨t, fun r hr => by rw [hri] at hr; rw [← Option.some.inj hr]; exact h1, h2⟩)
  refine ⟨l, ⟨rows, hr, by omega, fun i r t hri hti => (hq i t hti).1 r hri⟩, ⟨hl2, hcap⟩, fun t ht => ?_⟩
  obtain ⟨i, hi⟩ := List.getElem?_of_mem ht
  exact (hq i t hi).2
end
end Go.Proofs.YtmbgemcddjailaaGreatDoor.Mod
