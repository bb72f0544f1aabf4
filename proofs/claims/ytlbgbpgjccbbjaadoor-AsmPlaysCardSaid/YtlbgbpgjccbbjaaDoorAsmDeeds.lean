/-
  Deeds that came in, read as data. No condition beyond what each theorem names.
-/
import Derived.Test.YtlbgbpgjccbbjaaDoorAsmRight
import Derived.Deep.Slices
import Derived.Deep.Fields
namespace Go.Proofs.YtlbgbpgjccbbjaaDoor.Asm
open Go.RowKit Go.Maps Go.Proofs.YtlbgbpgjccbbjaaDoor.Op Go.ChangeShapes Go.WideShapes Go.Deep
set_option linter.unusedVariables false
theorem list_of {Q : Nat → Deed → Prop} : ∀ n, (∀ i, i < n → ∃ d, Q i d) → ∃ l : List Deed, l.length = n ∧ ∀ i d, l[i]? = some d → Q i d
  | 0, _ => ⟨[], rfl, fun i d h => by simp at h⟩
  | n + 1, h => by
    obtain ⟨l, hl, hp⟩ := list_of n (fun i hi => h i (by omega))
    obtain ⟨d, hd⟩ := h n (by omega)
    refine ⟨l ++ [d], by simp [hl], fun i e hi => ?_⟩
    by_cases hi2 : i < l.length
    · rw [List.getElem?_append_left hi2] at hi
      exact hp i e hi
    · have hlt := (List.getElem?_eq_some_iff.1 hi).1
      simp at hlt
      obtain rfl : i = l.length := by omega
      simp at hi
      rw [← hi, hl]
      exact hd
section
variable {H : Type} {enc : TypeId × Value → H} {w : World} {base : Nat} {spare : Nat → Bool} {held : Bool}
def deedFs : Array Field := #[{ name := "Kind", type := 3, offset := 0, embedded := false, tag := "", pkgPath := "", byteOffset := 0 }, { name := "Name", type := 9, offset := 1, embedded := false, tag := "", pkgPath := "", byteOffset := 8 }, { name := "Label", type := 9, offset := 2, embedded := false, tag := "", pkgPath := "", byteOffset := 24 }, { name := "N", type := 2, offset := 3, embedded := false, tag := "", pkgPath := "", byteOffset := 40 }, { name := "M", type := 2, offset := 4, embedded := false, tag := "", pkgPath := "", byteOffset := 48 }, { name := "T", type := 5, offset := 5, embedded := false, tag := "", pkgPath := "", byteOffset := 56 }]
theorem und_deed : Tryd.prog.underlying 63 = some (.struct deedFs) := Tryd.underlying63
theorem hone_deed : oneCellFields Tryd.prog deedFs = true := by kernel_rfl
theorem six {cs : List Value} (h : cs.length = 6) : ∃ c0 c1 c2 c3 c4 c5, cs = [c0, c1, c2, c3, c4, c5] := by
  match cs, h with
  | [c0, c1, c2, c3, c4, c5], _ => exact ⟨c0, c1, c2, c3, c4, c5, rfl⟩
theorem deed_cells {n : Nat} {cs : List Value} {y : DataW H × List MemPlace} (h : DataW.trod enc Tryd.prog w base spare held n 63 cs = some y) : ∃ d : Deed, cs = d.cells ∧ d.ok := by
  obtain ⟨xs, n', _, _, hlen, hxl, hf⟩ := DataW.trod_struct und_deed h
  have hone := hone_deed
  obtain ⟨c0, c1, c2, c3, c4, c5, rfl⟩ := six (hlen.trans (by kernel_rfl))
  have hx : ∀ i, i < 6 → ∃ y, xs[i]? = some y := fun i hi => ⟨_, List.getElem?_eq_getElem (by rw [hxl]; exact hi)⟩
  obtain ⟨y0, g0⟩ := hx 0 (by decide)
  have t0 := hf 0 { name := "Kind", type := 3, offset := 0, embedded := false, tag := "", pkgPath := "", byteOffset := 0 } rfl
  have o0 := (hone_of hone 0 { name := "Kind", type := 3, offset := 0, embedded := false, tag := "", pkgPath := "", byteOffset := 0 } rfl).2
  rw [g0, o0] at t0
  change DataW.trod enc Tryd.prog w base spare held n' 3 [c0] = some y0 at t0
  obtain ⟨kd, e0, _, w0⟩ := DataW.trod_int Tryd.underlying3 t0
  obtain rfl : c0 = .int .i64 kd := by simpa using e0
  obtain ⟨y1, g1⟩ := hx 1 (by decide)
  have t1 := hf 1 { name := "Name", type := 9, offset := 1, embedded := false, tag := "", pkgPath := "", byteOffset := 8 } rfl
  have o1 := (hone_of hone 1 { name := "Name", type := 9, offset := 1, embedded := false, tag := "", pkgPath := "", byteOffset := 8 } rfl).2
  rw [g1, o1] at t1
  change DataW.trod enc Tryd.prog w base spare held n' 9 [c1] = some y1 at t1
  obtain ⟨nm, e1, _, w1⟩ := DataW.trod_string Tryd.underlying9 t1
  obtain rfl : c1 = .string nm := by simpa using e1
  obtain ⟨y2, g2⟩ := hx 2 (by decide)
  have t2 := hf 2 { name := "Label", type := 9, offset := 2, embedded := false, tag := "", pkgPath := "", byteOffset := 24 } rfl
  have o2 := (hone_of hone 2 { name := "Label", type := 9, offset := 2, embedded := false, tag := "", pkgPath := "", byteOffset := 24 } rfl).2
  rw [g2, o2] at t2
  change DataW.trod enc Tryd.prog w base spare held n' 9 [c2] = some y2 at t2
  obtain ⟨lab, e2, _, w2⟩ := DataW.trod_string Tryd.underlying9 t2
  obtain rfl : c2 = .string lab := by simpa using e2
  obtain ⟨y3, g3⟩ := hx 3 (by decide)
  have t3 := hf 3 { name := "N", type := 2, offset := 3, embedded := false, tag := "", pkgPath := "", byteOffset := 40 } rfl
  have o3 := (hone_of hone 3 { name := "N", type := 2, offset := 3, embedded := false, tag := "", pkgPath := "", byteOffset := 40 } rfl).2
  rw [g3, o3] at t3
  change DataW.trod enc Tryd.prog w base spare held n' 2 [c3] = some y3 at t3
  obtain ⟨dn, e3, _, w3⟩ := DataW.trod_int Tryd.underlying2 t3
  obtain rfl : c3 = .int .i64 dn := by simpa using e3
  obtain ⟨y4, g4⟩ := hx 4 (by decide)
  have t4 := hf 4 { name := "M", type := 2, offset := 4, embedded := false, tag := "", pkgPath := "", byteOffset := 48 } rfl
  have o4 := (hone_of hone 4 { name := "M", type := 2, offset := 4, embedded := false, tag := "", pkgPath := "", byteOffset := 48 } rfl).2
  rw [g4, o4] at t4
  change DataW.trod enc Tryd.prog w base spare held n' 2 [c4] = some y4 at t4
  obtain ⟨dm, e4, _, w4⟩ := DataW.trod_int Tryd.underlying2 t4
  obtain rfl : c4 = .int .i64 dm := by simpa using e4
  obtain ⟨y5, g5⟩ := hx 5 (by decide)
  have t5 := hf 5 { name := "T", type := 5, offset := 5, embedded := false, tag := "", pkgPath := "", byteOffset := 56 } rfl
  have o5 := (hone_of hone 5 { name := "T", type := 5, offset := 5, embedded := false, tag := "", pkgPath := "", byteOffset := 56 } rfl).2
  rw [g5, o5] at t5
  change DataW.trod enc Tryd.prog w base spare held n' 5 [c5] = some y5 at t5
  obtain ⟨dt, e5, _, w5⟩ := DataW.trod_int Tryd.underlying5 t5
  obtain rfl : c5 = .int .u8 dt := by simpa using e5
  have b0 := Go.bounds_i64 w0
  have b5 := Go.bounds_u8 w5
  have h5 : ((UInt8.ofNat dt.toNat).toNat : Int) = dt := by
    have : (UInt8.ofNat dt.toNat).toNat = dt.toNat := by simp; omega
    omega
  refine ⟨⟨kd, nm, lab, dn, dm, UInt8.ofNat dt.toNat⟩, ?_, b0.1, b0.2, w1, w2⟩
  unfold Deed.cells
  rw [h5]
theorem deeds_open {fuel : Nat} {la : Option Addr} {len cap : Nat} {x : DataW H × List MemPlace} (h : DataW.trod enc Tryd.prog w base spare held fuel 58 [.slice la len cap] = some x) : ∃ l : List Deed, DeedsAt w (.slice la len cap) l := by
  rcases open_slice Tryd.underlying58 h with ⟨hcs, _⟩ | ⟨a, len', cap', m, n, D, Pl, hcs, _, hl, hm, hmm, _, hx⟩
  · simp only [List.cons.injEq, Value.slice.injEq, and_true] at hcs
    obtain ⟨rfl, rfl, rfl⟩ := hcs
    exact ⟨[], none, 0, rfl, Nat.zero_le _, fun i d hi => by simp at hi⟩
  · simp only [List.cons.injEq, Value.slice.injEq, and_true] at hcs
    obtain ⟨rfl, rfl, rfl⟩ := hcs
    have hc6 : Tryd.prog.cellsOf 63 = 6 := by kernel_rfl
    have hle : len ≤ m := by rw [hmm]; split <;> omega
    by_cases hl0 : len = 0
    · subst hl0
      exact ⟨[], some a, cap, rfl, Nat.zero_le _, fun i d hi => by simp at hi⟩
    · obtain ⟨b, off, spot⟩ := a
      have hspot : spot = none ∧ b < w.heap.size := by
        obtain ⟨z, hz⟩ : ∃ z : Nat, z = 0 := ⟨0, rfl⟩
        obtain ⟨cs', h1, h2⟩ := hx z (by omega)
        rw [hc6] at h1
        subst hz
        obtain ⟨d, rfl, _⟩ := deed_cells h2
        obtain ⟨_, _, hat⟩ := World.cells?_some h1
        have h00 := hat 0 (by decide)
        rw [Nat.zero_mul, show ((⟨b, off, spot⟩ : Addr).add 0).add 0 = ⟨b, off, spot⟩ by simp [Addr.add]] at h00
        change w.cell? ⟨b, off, spot⟩ = some (.int .i64 d.kind) at h00
        exact ⟨World.cell?_spot h00, World.block_lt_of_cell? _ _ h00⟩
      obtain ⟨rfl, hbl⟩ := hspot
      obtain ⟨l, hll, hp⟩ := list_of (Q := fun i d => d.ok ∧ ∀ j, j < 6 → w.cell? ⟨b, off + i * 6 + j, none⟩ = d.cells[j]?) len (fun i hi => by
        obtain ⟨cs', h1, h2⟩ := hx i (by omega)
        rw [hc6] at h1
        obtain ⟨d, rfl, hok⟩ := deed_cells h2
        obtain ⟨_, _, hat⟩ := World.cells?_some h1
        refine ⟨d, hok, fun j hj => ?_⟩
        have := hat j hj
        rw [Addr.add_lit, Addr.add_lit] at this
        exact this)
      refine ⟨l, some ⟨b, off, none⟩, cap, by rw [hll], by rw [hll]; unfold maxLen at hm; omega, fun i d hi => ?_⟩
      obtain ⟨h1, h3⟩ := hp i d hi
      exact ⟨h1, b, off, rfl, hbl, h3⟩
end
end Go.Proofs.YtlbgbpgjccbbjaaDoor.Asm
