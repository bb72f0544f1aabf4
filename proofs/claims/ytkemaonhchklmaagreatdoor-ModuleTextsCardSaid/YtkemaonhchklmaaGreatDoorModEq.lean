/-
  What slices.Equal and slices.EqualFunc answer of slices of structs. No condition beyond what each theorem names.
-/
import Derived.Test.YtkemaonhchklmaaGreatDoorModMem
import Derived.Laws.StructEq
import Derived.Deep.LoopGhost
import Derived.Deep.QuietTactic
import Derived.BigQuiet
namespace Go.Proofs.YtkemaonhchklmaaGreatDoor.Mod
open Go.RowKit Go.Maps Go.Proofs.YtkemaonhchklmaaGreatDoor.Op
set_option linter.unusedVariables false
theorem below_drewN {B : Nat} {a w : World} (h : Below B a w) (n : Nat) : Below B a (w.drewN n) := ⟨h.os, h.tape, h.output, h.size, h.block⟩
def eqS (a b : ByteArray) : Bool := a.toList == b.toList
def eq_ft (x y : FT) : Bool := (eqS x.params y.params) && (eqS x.results y.results)
set_option maxRecDepth 100000 in
theorem neq_ft (x y : FT) (w : World) : (binOp .neq 50 (.agg x.cells.toArray) (.agg y.cells.toArray)).run Tryz.prog w = .ok (.bool (!eq_ft x y)) w := by
  have hS : Tryz.prog.underlying 50 = some (.struct (Tryz.prog.fieldsOf 50)) := by kernel_rfl
  have hp : Tryz.prog.stoodInHeld 50 = false := by kernel_rfl
  simp only [FT.cells]
  rw [run_neq_struct, show (10000 : Nat) = 9999 + 1 from rfl, run_equalIn_agg w 9999 50 _ _ hS hp]
  simp only [Program.fieldsOf, Tryz.underlying50]
  go_simp
  unfold eq_ft eqS
  by_cases h0 : x.params.toList = y.params.toList <;> by_cases h1 : x.results.toList = y.results.toList <;> simp [h0, h1]
def eq_mem (x y : MemP) : Bool := (x.least == y.least) && (x.most == y.most)
set_option maxRecDepth 100000 in
theorem neq_mem (x y : MemP) (w : World) : (binOp .neq 59 (.agg x.cells.toArray) (.agg y.cells.toArray)).run Tryz.prog w = .ok (.bool (!eq_mem x y)) w := by
  have hS : Tryz.prog.underlying 59 = some (.struct (Tryz.prog.fieldsOf 59)) := by kernel_rfl
  have hp : Tryz.prog.stoodInHeld 59 = false := by kernel_rfl
  simp only [MemP.cells]
  rw [run_neq_struct, show (10000 : Nat) = 9999 + 1 from rfl, run_equalIn_agg w 9999 59 _ _ hS hp]
  simp only [Program.fieldsOf, Tryz.underlying59]
  go_simp
  unfold eq_mem
  by_cases h0 : x.least = y.least <;> by_cases h1 : x.most = y.most <;> simp [h0, h1]
def eq_glob (x y : GlobP) : Bool := (x.ty == y.ty) && (x.mut_ == y.mut_) && (x.init == y.init)
set_option maxRecDepth 100000 in
theorem neq_glob (x y : GlobP) (w : World) : (binOp .neq 63 (.agg x.cells.toArray) (.agg y.cells.toArray)).run Tryz.prog w = .ok (.bool (!eq_glob x y)) w := by
  have hS : Tryz.prog.underlying 63 = some (.struct (Tryz.prog.fieldsOf 63)) := by kernel_rfl
  have hp : Tryz.prog.stoodInHeld 63 = false := by kernel_rfl
  simp only [GlobP.cells]
  rw [run_neq_struct, show (10000 : Nat) = 9999 + 1 from rfl, run_equalIn_agg w 9999 63 _ _ hS hp]
  simp only [Program.fieldsOf, Tryz.underlying63]
  go_simp
  unfold eq_glob
  by_cases h0 : x.ty = y.ty <;> by_cases h1 : x.mut_ = y.mut_ <;> by_cases h2 : x.init = y.init <;> simp [h0, h1, h2]
def eq_exp (x y : ExpP) : Bool := (eqS x.name y.name) && (x.kind == y.kind) && (x.index == y.index)
set_option maxRecDepth 100000 in
theorem neq_exp (x y : ExpP) (w : World) : (binOp .neq 67 (.agg x.cells.toArray) (.agg y.cells.toArray)).run Tryz.prog w = .ok (.bool (!eq_exp x y)) w := by
  have hS : Tryz.prog.underlying 67 = some (.struct (Tryz.prog.fieldsOf 67)) := by kernel_rfl
  have hp : Tryz.prog.stoodInHeld 67 = false := by kernel_rfl
  simp only [ExpP.cells]
  rw [run_neq_struct, show (10000 : Nat) = 9999 + 1 from rfl, run_equalIn_agg w 9999 67 _ _ hS hp]
  simp only [Program.fieldsOf, Tryz.underlying67]
  go_simp
  unfold eq_exp eqS
  by_cases h0 : x.name.toList = y.name.toList <;> by_cases h1 : x.kind = y.kind <;> by_cases h2 : x.index = y.index <;> simp [h0, h1, h2]
def eq_data (x y : DataP) : Bool := (x.offset == y.offset) && (eqS x.bytes y.bytes)
set_option maxRecDepth 100000 in
theorem neq_data (x y : DataP) (w : World) : (binOp .neq 71 (.agg x.cells.toArray) (.agg y.cells.toArray)).run Tryz.prog w = .ok (.bool (!eq_data x y)) w := by
  have hS : Tryz.prog.underlying 71 = some (.struct (Tryz.prog.fieldsOf 71)) := by kernel_rfl
  have hp : Tryz.prog.stoodInHeld 71 = false := by kernel_rfl
  simp only [DataP.cells]
  rw [run_neq_struct, show (10000 : Nat) = 9999 + 1 from rfl, run_equalIn_agg w 9999 71 _ _ hS hp]
  simp only [Program.fieldsOf, Tryz.underlying71]
  go_simp
  unfold eq_data eqS
  by_cases h0 : x.offset = y.offset <;> by_cases h1 : x.bytes.toList = y.bytes.toList <;> simp [h0, h1]
set_option maxRecDepth 100000 in
set_option maxHeartbeats 2000000 in
theorem equal_ft (la lb : Option Addr) (c d : Nat) (rows cols : List (List Value)) (p : Nat → Bool) (w : World) (hr : RowAt w 2 (.slice la rows.length c) rows) (hc : RowAt w 2 (.slice lb cols.length d) cols)
    (hp : ∀ (j : Nat) r1 r2, rows[j]? = some r1 → cols[j]? = some r2 → ∀ w, (binOp .neq 50 (.agg r1.toArray) (.agg r2.toArray)).run Tryz.prog w = .ok (.bool (!p j)) w) :
    Calls Tryz.prog 46 #[.slice la rows.length c, .slice lb cols.length d] w fun e w' => e = .returned (.bool (decide (rows.length = cols.length) && !anyN (fun j => !p j) rows.length)) ∧ Below w.heap.size w w' := by
  by_cases hlen : rows.length = cols.length
  · obtain ⟨la', c', hv, hle, hr⟩ := hr
    obtain ⟨rfl, rfl⟩ : la = la' ∧ c = c' := by simp only [Value.slice.injEq] at hv; exact ⟨hv.1, hv.2.2⟩
    obtain ⟨lb', d', hv2, _, hc⟩ := hc
    obtain ⟨rfl, rfl⟩ : lb = lb' ∧ d = d' := by simp only [Value.slice.injEq] at hv2; exact ⟨hv2.1, hv2.2.2⟩
    rw [decide_eq_true hlen, Bool.true_and]
    have HLEN := Lib.hid hlen
    rw [← hlen]
    obtain ⟨N, hN⟩ : ∃ N, rows.length = N := ⟨_, rfl⟩
    have HN := Lib.hid hN
    rw [hN] at hle ⊢
    have HR := Lib.hid hr
    have HC := Lib.hid hc
    have HP := Lib.hid hp
    have hne : ((N : Int) != (N : Int)) = false := by simp
    clear hr hc hp hv hv2 hlen hN
    go_enter Tryz.func46, Tryz.ntmps46
    go_wp2_with fail
    go_loopg [5, 13] N (fun gk _ s13 wr => ∃ k : Nat, k ≤ N ∧ N - k ≤ gk ∧ s13 = .int .i64 k ∧ Below w.heap.size w wr ∧ Hid (∀ j, j < k → p j = true))
    case atStart => exact ⟨0, Nat.zero_le _, by omega, rfl, Below.refl _ w, Lib.hid fun j hj => absurd hj (Nat.not_lt_zero _)⟩
    case round =>
      obtain ⟨k, hk, hg, rfl, hB, HA⟩ := hrel
      by_cases hlt : k < N
      · obtain ⟨r1, hr1⟩ : ∃ r, rows[k]? = some r := ⟨_, List.getElem?_eq_getElem (by have := HN.out; omega)⟩
        obtain ⟨r2, hr2⟩ : ∃ r, cols[k]? = some r := ⟨_, List.getElem?_eq_getElem (by have := HN.out; have := HLEN.out; omega)⟩
        have hrun := HP.out k r1 r2 hr1 hr2
        obtain ⟨hl1, b1, o1, rfl, hb1, hc1⟩ := HR.out k r1 hr1
        obtain ⟨hl2, b2, o2, rfl, hb2, hc2⟩ := HC.out k r2 hr2
        obtain ⟨x0, x1, rfl⟩ := two hl1
        obtain ⟨y0, y1, rfl⟩ := two hl2
        change ∀ w, (binOp .neq 50 (.agg #[x0, x1]) (.agg #[y0, y1])).run Tryz.prog w = .ok (.bool (!p k)) w at hrun
        have e0 : wr.cell? ⟨b1, o1 + k * 2, none⟩ = some x0 := (hB.cell (p := ⟨b1, o1 + k * 2 + 0, none⟩) hb1).trans (hc1 0 _ rfl)
        have f0 : wr.cell? ⟨b2, o2 + k * 2, none⟩ = some y0 := (hB.cell (p := ⟨b2, o2 + k * 2 + 0, none⟩) hb2).trans (hc2 0 _ rfl)
        have e1 : wr.cell? ⟨b1, o1 + k * 2 + 1, none⟩ = some x1 := (hB.cell (p := ⟨b1, o1 + k * 2 + 1, none⟩) hb1).trans (hc1 1 _ rfl)
        have f1 : wr.cell? ⟨b2, o2 + k * 2 + 1, none⟩ = some y1 := (hB.cell (p := ⟨b2, o2 + k * 2 + 1, none⟩) hb2).trans (hc2 1 _ rfl)
        have hltz : decide ((k : Int) < (N : Int)) = true := decide_eq_true (by omega)
        have hltn : decide (k < N) = true := decide_eq_true hlt
        have hk0 : (0 : Int) ≤ (k : Int) := by omega
        have hk1 : (k : Int) < (N : Int) := by omega
        have HB := Lib.hid hB
        clear hr1 hr2 hl1 hl2 hc1 hc2 hB
        cases hq : p k with
        | false =>
          rw [hq] at hrun
          have HQ := Lib.hid hq
          clear hq
          go_wp2_with fail
          go_quiet (fail)
          go_wp2_with fail
          go_ret
          have ha : anyN (fun j => !p j) N = true := by unfold anyN; rw [List.any_eq_true]; exact ⟨k, by simpa using hlt, by simp [HQ.out]⟩
          exact ⟨by rw [ha]; rfl, below_drewN HB.out _⟩
        | true =>
          rw [hq] at hrun
          have HQ := Lib.hid hq
          clear hq
          go_wp2_with fail
          go_quiet (fail)
          go_wp2_with fail
          go_roundg (N - (k + 1))
          case measure => omega
          case rel => exact ⟨k + 1, by omega, by omega, by go_num, below_drewN HB.out _, Lib.hid fun j hj => by rcases (show j < k ∨ j = k by omega) with h9 | rfl; exact HA.out j h9; exact HQ.out⟩
      · obtain rfl : k = N := by omega
        have hltz : decide ((k : Int) < (k : Int)) = false := by simp
        have HB := Lib.hid hB
        clear hB
        go_wp2_with fail
        go_ret
        have ha : anyN (fun j => !p j) k = false := by unfold anyN; rw [List.any_eq_false]; intro j hj; simp [HA.out j (by simpa using hj)]
        exact ⟨by rw [ha]; rfl, HB.out⟩
  · rw [decide_eq_false hlen, Bool.false_and]
    have hne : ((rows.length : Int) != (cols.length : Int)) = true := bne_iff_ne.2 (by omega)
    clear hr hc hp
    go_enter Tryz.func46, Tryz.ntmps46
    go_wp2_with fail
    go_ret
    exact ⟨rfl, Below.refl _ _⟩
set_option maxRecDepth 100000 in
set_option maxHeartbeats 2000000 in
theorem equal_mem (la lb : Option Addr) (c d : Nat) (rows cols : List (List Value)) (p : Nat → Bool) (w : World) (hr : RowAt w 2 (.slice la rows.length c) rows) (hc : RowAt w 2 (.slice lb cols.length d) cols)
    (hp : ∀ (j : Nat) r1 r2, rows[j]? = some r1 → cols[j]? = some r2 → ∀ w, (binOp .neq 59 (.agg r1.toArray) (.agg r2.toArray)).run Tryz.prog w = .ok (.bool (!p j)) w) :
    Calls Tryz.prog 49 #[.slice la rows.length c, .slice lb cols.length d] w fun e w' => e = .returned (.bool (decide (rows.length = cols.length) && !anyN (fun j => !p j) rows.length)) ∧ Below w.heap.size w w' := by
  by_cases hlen : rows.length = cols.length
  · obtain ⟨la', c', hv, hle, hr⟩ := hr
    obtain ⟨rfl, rfl⟩ : la = la' ∧ c = c' := by simp only [Value.slice.injEq] at hv; exact ⟨hv.1, hv.2.2⟩
    obtain ⟨lb', d', hv2, _, hc⟩ := hc
    obtain ⟨rfl, rfl⟩ : lb = lb' ∧ d = d' := by simp only [Value.slice.injEq] at hv2; exact ⟨hv2.1, hv2.2.2⟩
    rw [decide_eq_true hlen, Bool.true_and]
    have HLEN := Lib.hid hlen
    rw [← hlen]
    obtain ⟨N, hN⟩ : ∃ N, rows.length = N := ⟨_, rfl⟩
    have HN := Lib.hid hN
    rw [hN] at hle ⊢
    have HR := Lib.hid hr
    have HC := Lib.hid hc
    have HP := Lib.hid hp
    have hne : ((N : Int) != (N : Int)) = false := by simp
    clear hr hc hp hv hv2 hlen hN
    go_enter Tryz.func49, Tryz.ntmps49
    go_wp2_with fail
    go_loopg [5, 13] N (fun gk _ s13 wr => ∃ k : Nat, k ≤ N ∧ N - k ≤ gk ∧ s13 = .int .i64 k ∧ Below w.heap.size w wr ∧ Hid (∀ j, j < k → p j = true))
    case atStart => exact ⟨0, Nat.zero_le _, by omega, rfl, Below.refl _ w, Lib.hid fun j hj => absurd hj (Nat.not_lt_zero _)⟩
    case round =>
      obtain ⟨k, hk, hg, rfl, hB, HA⟩ := hrel
      by_cases hlt : k < N
      · obtain ⟨r1, hr1⟩ : ∃ r, rows[k]? = some r := ⟨_, List.getElem?_eq_getElem (by have := HN.out; omega)⟩
        obtain ⟨r2, hr2⟩ : ∃ r, cols[k]? = some r := ⟨_, List.getElem?_eq_getElem (by have := HN.out; have := HLEN.out; omega)⟩
        have hrun := HP.out k r1 r2 hr1 hr2
        obtain ⟨hl1, b1, o1, rfl, hb1, hc1⟩ := HR.out k r1 hr1
        obtain ⟨hl2, b2, o2, rfl, hb2, hc2⟩ := HC.out k r2 hr2
        obtain ⟨x0, x1, rfl⟩ := two hl1
        obtain ⟨y0, y1, rfl⟩ := two hl2
        change ∀ w, (binOp .neq 59 (.agg #[x0, x1]) (.agg #[y0, y1])).run Tryz.prog w = .ok (.bool (!p k)) w at hrun
        have e0 : wr.cell? ⟨b1, o1 + k * 2, none⟩ = some x0 := (hB.cell (p := ⟨b1, o1 + k * 2 + 0, none⟩) hb1).trans (hc1 0 _ rfl)
        have f0 : wr.cell? ⟨b2, o2 + k * 2, none⟩ = some y0 := (hB.cell (p := ⟨b2, o2 + k * 2 + 0, none⟩) hb2).trans (hc2 0 _ rfl)
        have e1 : wr.cell? ⟨b1, o1 + k * 2 + 1, none⟩ = some x1 := (hB.cell (p := ⟨b1, o1 + k * 2 + 1, none⟩) hb1).trans (hc1 1 _ rfl)
        have f1 : wr.cell? ⟨b2, o2 + k * 2 + 1, none⟩ = some y1 := (hB.cell (p := ⟨b2, o2 + k * 2 + 1, none⟩) hb2).trans (hc2 1 _ rfl)
        have hltz : decide ((k : Int) < (N : Int)) = true := decide_eq_true (by omega)
        have hltn : decide (k < N) = true := decide_eq_true hlt
        have hk0 : (0 : Int) ≤ (k : Int) := by omega
        have hk1 : (k : Int) < (N : Int) := by omega
        have HB := Lib.hid hB
        clear hr1 hr2 hl1 hl2 hc1 hc2 hB
        cases hq : p k with
        | false =>
          rw [hq] at hrun
          have HQ := Lib.hid hq
          clear hq
          go_wp2_with fail
          go_quiet (fail)
          go_wp2_with fail
          go_ret
          have ha : anyN (fun j => !p j) N = true := by unfold anyN; rw [List.any_eq_true]; exact ⟨k, by simpa using hlt, by simp [HQ.out]⟩
          exact ⟨by rw [ha]; rfl, below_drewN HB.out _⟩
        | true =>
          rw [hq] at hrun
          have HQ := Lib.hid hq
          clear hq
          go_wp2_with fail
          go_quiet (fail)
          go_wp2_with fail
          go_roundg (N - (k + 1))
          case measure => omega
          case rel => exact ⟨k + 1, by omega, by omega, by go_num, below_drewN HB.out _, Lib.hid fun j hj => by rcases (show j < k ∨ j = k by omega) with h9 | rfl; exact HA.out j h9; exact HQ.out⟩
      · obtain rfl : k = N := by omega
        have hltz : decide ((k : Int) < (k : Int)) = false := by simp
        have HB := Lib.hid hB
        clear hB
        go_wp2_with fail
        go_ret
        have ha : anyN (fun j => !p j) k = false := by unfold anyN; rw [List.any_eq_false]; intro j hj; simp [HA.out j (by simpa using hj)]
        exact ⟨by rw [ha]; rfl, HB.out⟩
  · rw [decide_eq_false hlen, Bool.false_and]
    have hne : ((rows.length : Int) != (cols.length : Int)) = true := bne_iff_ne.2 (by omega)
    clear hr hc hp
    go_enter Tryz.func49, Tryz.ntmps49
    go_wp2_with fail
    go_ret
    exact ⟨rfl, Below.refl _ _⟩
set_option maxRecDepth 100000 in
set_option maxHeartbeats 2000000 in
theorem equal_glob (la lb : Option Addr) (c d : Nat) (rows cols : List (List Value)) (p : Nat → Bool) (w : World) (hr : RowAt w 3 (.slice la rows.length c) rows) (hc : RowAt w 3 (.slice lb cols.length d) cols)
    (hp : ∀ (j : Nat) r1 r2, rows[j]? = some r1 → cols[j]? = some r2 → ∀ w, (binOp .neq 63 (.agg r1.toArray) (.agg r2.toArray)).run Tryz.prog w = .ok (.bool (!p j)) w) :
    Calls Tryz.prog 50 #[.slice la rows.length c, .slice lb cols.length d] w fun e w' => e = .returned (.bool (decide (rows.length = cols.length) && !anyN (fun j => !p j) rows.length)) ∧ Below w.heap.size w w' := by
  by_cases hlen : rows.length = cols.length
  · obtain ⟨la', c', hv, hle, hr⟩ := hr
    obtain ⟨rfl, rfl⟩ : la = la' ∧ c = c' := by simp only [Value.slice.injEq] at hv; exact ⟨hv.1, hv.2.2⟩
    obtain ⟨lb', d', hv2, _, hc⟩ := hc
    obtain ⟨rfl, rfl⟩ : lb = lb' ∧ d = d' := by simp only [Value.slice.injEq] at hv2; exact ⟨hv2.1, hv2.2.2⟩
    rw [decide_eq_true hlen, Bool.true_and]
    have HLEN := Lib.hid hlen
    rw [← hlen]
    obtain ⟨N, hN⟩ : ∃ N, rows.length = N := ⟨_, rfl⟩
    have HN := Lib.hid hN
    rw [hN] at hle ⊢
    have HR := Lib.hid hr
    have HC := Lib.hid hc
    have HP := Lib.hid hp
    have hne : ((N : Int) != (N : Int)) = false := by simp
    clear hr hc hp hv hv2 hlen hN
    go_enter Tryz.func50, Tryz.ntmps50
    go_wp2_with fail
    go_loopg [5, 13] N (fun gk _ s13 wr => ∃ k : Nat, k ≤ N ∧ N - k ≤ gk ∧ s13 = .int .i64 k ∧ Below w.heap.size w wr ∧ Hid (∀ j, j < k → p j = true))
    case atStart => exact ⟨0, Nat.zero_le _, by omega, rfl, Below.refl _ w, Lib.hid fun j hj => absurd hj (Nat.not_lt_zero _)⟩
    case round =>
      obtain ⟨k, hk, hg, rfl, hB, HA⟩ := hrel
      by_cases hlt : k < N
      · obtain ⟨r1, hr1⟩ : ∃ r, rows[k]? = some r := ⟨_, List.getElem?_eq_getElem (by have := HN.out; omega)⟩
        obtain ⟨r2, hr2⟩ : ∃ r, cols[k]? = some r := ⟨_, List.getElem?_eq_getElem (by have := HN.out; have := HLEN.out; omega)⟩
        have hrun := HP.out k r1 r2 hr1 hr2
        obtain ⟨hl1, b1, o1, rfl, hb1, hc1⟩ := HR.out k r1 hr1
        obtain ⟨hl2, b2, o2, rfl, hb2, hc2⟩ := HC.out k r2 hr2
        obtain ⟨x0, x1, x2, rfl⟩ := three hl1
        obtain ⟨y0, y1, y2, rfl⟩ := three hl2
        change ∀ w, (binOp .neq 63 (.agg #[x0, x1, x2]) (.agg #[y0, y1, y2])).run Tryz.prog w = .ok (.bool (!p k)) w at hrun
        have e0 : wr.cell? ⟨b1, o1 + k * 3, none⟩ = some x0 := (hB.cell (p := ⟨b1, o1 + k * 3 + 0, none⟩) hb1).trans (hc1 0 _ rfl)
        have f0 : wr.cell? ⟨b2, o2 + k * 3, none⟩ = some y0 := (hB.cell (p := ⟨b2, o2 + k * 3 + 0, none⟩) hb2).trans (hc2 0 _ rfl)
        have e1 : wr.cell? ⟨b1, o1 + k * 3 + 1, none⟩ = some x1 := (hB.cell (p := ⟨b1, o1 + k * 3 + 1, none⟩) hb1).trans (hc1 1 _ rfl)
        have f1 : wr.cell? ⟨b2, o2 + k * 3 + 1, none⟩ = some y1 := (hB.cell (p := ⟨b2, o2 + k * 3 + 1, none⟩) hb2).trans (hc2 1 _ rfl)
        have e2 : wr.cell? ⟨b1, o1 + k * 3 + 2, none⟩ = some x2 := (hB.cell (p := ⟨b1, o1 + k * 3 + 2, none⟩) hb1).trans (hc1 2 _ rfl)
        have f2 : wr.cell? ⟨b2, o2 + k * 3 + 2, none⟩ = some y2 := (hB.cell (p := ⟨b2, o2 + k * 3 + 2, none⟩) hb2).trans (hc2 2 _ rfl)
        have hltz : decide ((k : Int) < (N : Int)) = true := decide_eq_true (by omega)
        have hltn : decide (k < N) = true := decide_eq_true hlt
        have hk0 : (0 : Int) ≤ (k : Int) := by omega
        have hk1 : (k : Int) < (N : Int) := by omega
        have HB := Lib.hid hB
        clear hr1 hr2 hl1 hl2 hc1 hc2 hB
        cases hq : p k with
        | false =>
          rw [hq] at hrun
          have HQ := Lib.hid hq
          clear hq
          go_wp2_with fail
          go_quiet (fail)
          go_wp2_with fail
          go_ret
          have ha : anyN (fun j => !p j) N = true := by unfold anyN; rw [List.any_eq_true]; exact ⟨k, by simpa using hlt, by simp [HQ.out]⟩
          exact ⟨by rw [ha]; rfl, below_drewN HB.out _⟩
        | true =>
          rw [hq] at hrun
          have HQ := Lib.hid hq
          clear hq
          go_wp2_with fail
          go_quiet (fail)
          go_wp2_with fail
          go_roundg (N - (k + 1))
          case measure => omega
          case rel => exact ⟨k + 1, by omega, by omega, by go_num, below_drewN HB.out _, Lib.hid fun j hj => by rcases (show j < k ∨ j = k by omega) with h9 | rfl; exact HA.out j h9; exact HQ.out⟩
      · obtain rfl : k = N := by omega
        have hltz : decide ((k : Int) < (k : Int)) = false := by simp
        have HB := Lib.hid hB
        clear hB
        go_wp2_with fail
        go_ret
        have ha : anyN (fun j => !p j) k = false := by unfold anyN; rw [List.any_eq_false]; intro j hj; simp [HA.out j (by simpa using hj)]
        exact ⟨by rw [ha]; rfl, HB.out⟩
  · rw [decide_eq_false hlen, Bool.false_and]
    have hne : ((rows.length : Int) != (cols.length : Int)) = true := bne_iff_ne.2 (by omega)
    clear hr hc hp
    go_enter Tryz.func50, Tryz.ntmps50
    go_wp2_with fail
    go_ret
    exact ⟨rfl, Below.refl _ _⟩
set_option maxRecDepth 100000 in
set_option maxHeartbeats 2000000 in
theorem equal_exp (la lb : Option Addr) (c d : Nat) (rows cols : List (List Value)) (p : Nat → Bool) (w : World) (hr : RowAt w 3 (.slice la rows.length c) rows) (hc : RowAt w 3 (.slice lb cols.length d) cols)
    (hp : ∀ (j : Nat) r1 r2, rows[j]? = some r1 → cols[j]? = some r2 → ∀ w, (binOp .neq 67 (.agg r1.toArray) (.agg r2.toArray)).run Tryz.prog w = .ok (.bool (!p j)) w) :
    Calls Tryz.prog 51 #[.slice la rows.length c, .slice lb cols.length d] w fun e w' => e = .returned (.bool (decide (rows.length = cols.length) && !anyN (fun j => !p j) rows.length)) ∧ Below w.heap.size w w' := by
  by_cases hlen : rows.length = cols.length
  · obtain ⟨la', c', hv, hle, hr⟩ := hr
    obtain ⟨rfl, rfl⟩ : la = la' ∧ c = c' := by simp only [Value.slice.injEq] at hv; exact ⟨hv.1, hv.2.2⟩
    obtain ⟨lb', d', hv2, _, hc⟩ := hc
    obtain ⟨rfl, rfl⟩ : lb = lb' ∧ d = d' := by simp only [Value.slice.injEq] at hv2; exact ⟨hv2.1, hv2.2.2⟩
    rw [decide_eq_true hlen, Bool.true_and]
    have HLEN := Lib.hid hlen
    rw [← hlen]
    obtain ⟨N, hN⟩ : ∃ N, rows.length = N := ⟨_, rfl⟩
    have HN := Lib.hid hN
    rw [hN] at hle ⊢
    have HR := Lib.hid hr
    have HC := Lib.hid hc
    have HP := Lib.hid hp
    have hne : ((N : Int) != (N : Int)) = false := by simp
    clear hr hc hp hv hv2 hlen hN
    go_enter Tryz.func51, Tryz.ntmps51
    go_wp2_with fail
    go_loopg [5, 13] N (fun gk _ s13 wr => ∃ k : Nat, k ≤ N ∧ N - k ≤ gk ∧ s13 = .int .i64 k ∧ Below w.heap.size w wr ∧ Hid (∀ j, j < k → p j = true))
    case atStart => exact ⟨0, Nat.zero_le _, by omega, rfl, Below.refl _ w, Lib.hid fun j hj => absurd hj (Nat.not_lt_zero _)⟩
    case round =>
      obtain ⟨k, hk, hg, rfl, hB, HA⟩ := hrel
      by_cases hlt : k < N
      · obtain ⟨r1, hr1⟩ : ∃ r, rows[k]? = some r := ⟨_, List.getElem?_eq_getElem (by have := HN.out; omega)⟩
        obtain ⟨r2, hr2⟩ : ∃ r, cols[k]? = some r := ⟨_, List.getElem?_eq_getElem (by have := HN.out; have := HLEN.out; omega)⟩
        have hrun := HP.out k r1 r2 hr1 hr2
        obtain ⟨hl1, b1, o1, rfl, hb1, hc1⟩ := HR.out k r1 hr1
        obtain ⟨hl2, b2, o2, rfl, hb2, hc2⟩ := HC.out k r2 hr2
        obtain ⟨x0, x1, x2, rfl⟩ := three hl1
        obtain ⟨y0, y1, y2, rfl⟩ := three hl2
        change ∀ w, (binOp .neq 67 (.agg #[x0, x1, x2]) (.agg #[y0, y1, y2])).run Tryz.prog w = .ok (.bool (!p k)) w at hrun
        have e0 : wr.cell? ⟨b1, o1 + k * 3, none⟩ = some x0 := (hB.cell (p := ⟨b1, o1 + k * 3 + 0, none⟩) hb1).trans (hc1 0 _ rfl)
        have f0 : wr.cell? ⟨b2, o2 + k * 3, none⟩ = some y0 := (hB.cell (p := ⟨b2, o2 + k * 3 + 0, none⟩) hb2).trans (hc2 0 _ rfl)
        have e1 : wr.cell? ⟨b1, o1 + k * 3 + 1, none⟩ = some x1 := (hB.cell (p := ⟨b1, o1 + k * 3 + 1, none⟩) hb1).trans (hc1 1 _ rfl)
        have f1 : wr.cell? ⟨b2, o2 + k * 3 + 1, none⟩ = some y1 := (hB.cell (p := ⟨b2, o2 + k * 3 + 1, none⟩) hb2).trans (hc2 1 _ rfl)
        have e2 : wr.cell? ⟨b1, o1 + k * 3 + 2, none⟩ = some x2 := (hB.cell (p := ⟨b1, o1 + k * 3 + 2, none⟩) hb1).trans (hc1 2 _ rfl)
        have f2 : wr.cell? ⟨b2, o2 + k * 3 + 2, none⟩ = some y2 := (hB.cell (p := ⟨b2, o2 + k * 3 + 2, none⟩) hb2).trans (hc2 2 _ rfl)
        have hltz : decide ((k : Int) < (N : Int)) = true := decide_eq_true (by omega)
        have hltn : decide (k < N) = true := decide_eq_true hlt
        have hk0 : (0 : Int) ≤ (k : Int) := by omega
        have hk1 : (k : Int) < (N : Int) := by omega
        have HB := Lib.hid hB
        clear hr1 hr2 hl1 hl2 hc1 hc2 hB
        cases hq : p k with
        | false =>
          rw [hq] at hrun
          have HQ := Lib.hid hq
          clear hq
          go_wp2_with fail
          go_quiet (fail)
          go_wp2_with fail
          go_ret
          have ha : anyN (fun j => !p j) N = true := by unfold anyN; rw [List.any_eq_true]; exact ⟨k, by simpa using hlt, by simp [HQ.out]⟩
          exact ⟨by rw [ha]; rfl, below_drewN HB.out _⟩
        | true =>
          rw [hq] at hrun
          have HQ := Lib.hid hq
          clear hq
          go_wp2_with fail
          go_quiet (fail)
          go_wp2_with fail
          go_roundg (N - (k + 1))
          case measure => omega
          case rel => exact ⟨k + 1, by omega, by omega, by go_num, below_drewN HB.out _, Lib.hid fun j hj => by rcases (show j < k ∨ j = k by omega) with h9 | rfl; exact HA.out j h9; exact HQ.out⟩
      · obtain rfl : k = N := by omega
        have hltz : decide ((k : Int) < (k : Int)) = false := by simp
        have HB := Lib.hid hB
        clear hB
        go_wp2_with fail
        go_ret
        have ha : anyN (fun j => !p j) k = false := by unfold anyN; rw [List.any_eq_false]; intro j hj; simp [HA.out j (by simpa using hj)]
        exact ⟨by rw [ha]; rfl, HB.out⟩
  · rw [decide_eq_false hlen, Bool.false_and]
    have hne : ((rows.length : Int) != (cols.length : Int)) = true := bne_iff_ne.2 (by omega)
    clear hr hc hp
    go_enter Tryz.func51, Tryz.ntmps51
    go_wp2_with fail
    go_ret
    exact ⟨rfl, Below.refl _ _⟩
set_option maxRecDepth 100000 in
set_option maxHeartbeats 2000000 in
theorem equal_data (la lb : Option Addr) (c d : Nat) (rows cols : List (List Value)) (p : Nat → Bool) (w : World) (hr : RowAt w 2 (.slice la rows.length c) rows) (hc : RowAt w 2 (.slice lb cols.length d) cols)
    (hp : ∀ (j : Nat) r1 r2, rows[j]? = some r1 → cols[j]? = some r2 → ∀ w, (binOp .neq 71 (.agg r1.toArray) (.agg r2.toArray)).run Tryz.prog w = .ok (.bool (!p j)) w) :
    Calls Tryz.prog 52 #[.slice la rows.length c, .slice lb cols.length d] w fun e w' => e = .returned (.bool (decide (rows.length = cols.length) && !anyN (fun j => !p j) rows.length)) ∧ Below w.heap.size w w' := by
  by_cases hlen : rows.length = cols.length
  · obtain ⟨la', c', hv, hle, hr⟩ := hr
    obtain ⟨rfl, rfl⟩ : la = la' ∧ c = c' := by simp only [Value.slice.injEq] at hv; exact ⟨hv.1, hv.2.2⟩
    obtain ⟨lb', d', hv2, _, hc⟩ := hc
    obtain ⟨rfl, rfl⟩ : lb = lb' ∧ d = d' := by simp only [Value.slice.injEq] at hv2; exact ⟨hv2.1, hv2.2.2⟩
    rw [decide_eq_true hlen, Bool.true_and]
    have HLEN := Lib.hid hlen
    rw [← hlen]
    obtain ⟨N, hN⟩ : ∃ N, rows.length = N := ⟨_, rfl⟩
    have HN := Lib.hid hN
    rw [hN] at hle ⊢
    have HR := Lib.hid hr
    have HC := Lib.hid hc
    have HP := Lib.hid hp
    have hne : ((N : Int) != (N : Int)) = false := by simp
    clear hr hc hp hv hv2 hlen hN
    go_enter Tryz.func52, Tryz.ntmps52
    go_wp2_with fail
    go_loopg [5, 13] N (fun gk _ s13 wr => ∃ k : Nat, k ≤ N ∧ N - k ≤ gk ∧ s13 = .int .i64 k ∧ Below w.heap.size w wr ∧ Hid (∀ j, j < k → p j = true))
    case atStart => exact ⟨0, Nat.zero_le _, by omega, rfl, Below.refl _ w, Lib.hid fun j hj => absurd hj (Nat.not_lt_zero _)⟩
    case round =>
      obtain ⟨k, hk, hg, rfl, hB, HA⟩ := hrel
      by_cases hlt : k < N
      · obtain ⟨r1, hr1⟩ : ∃ r, rows[k]? = some r := ⟨_, List.getElem?_eq_getElem (by have := HN.out; omega)⟩
        obtain ⟨r2, hr2⟩ : ∃ r, cols[k]? = some r := ⟨_, List.getElem?_eq_getElem (by have := HN.out; have := HLEN.out; omega)⟩
        have hrun := HP.out k r1 r2 hr1 hr2
        obtain ⟨hl1, b1, o1, rfl, hb1, hc1⟩ := HR.out k r1 hr1
        obtain ⟨hl2, b2, o2, rfl, hb2, hc2⟩ := HC.out k r2 hr2
        obtain ⟨x0, x1, rfl⟩ := two hl1
        obtain ⟨y0, y1, rfl⟩ := two hl2
        change ∀ w, (binOp .neq 71 (.agg #[x0, x1]) (.agg #[y0, y1])).run Tryz.prog w = .ok (.bool (!p k)) w at hrun
        have e0 : wr.cell? ⟨b1, o1 + k * 2, none⟩ = some x0 := (hB.cell (p := ⟨b1, o1 + k * 2 + 0, none⟩) hb1).trans (hc1 0 _ rfl)
        have f0 : wr.cell? ⟨b2, o2 + k * 2, none⟩ = some y0 := (hB.cell (p := ⟨b2, o2 + k * 2 + 0, none⟩) hb2).trans (hc2 0 _ rfl)
        have e1 : wr.cell? ⟨b1, o1 + k * 2 + 1, none⟩ = some x1 := (hB.cell (p := ⟨b1, o1 + k * 2 + 1, none⟩) hb1).trans (hc1 1 _ rfl)
        have f1 : wr.cell? ⟨b2, o2 + k * 2 + 1, none⟩ = some y1 := (hB.cell (p := ⟨b2, o2 + k * 2 + 1, none⟩) hb2).trans (hc2 1 _ rfl)
        have hltz : decide ((k : Int) < (N : Int)) = true := decide_eq_true (by omega)
        have hltn : decide (k < N) = true := decide_eq_true hlt
        have hk0 : (0 : Int) ≤ (k : Int) := by omega
        have hk1 : (k : Int) < (N : Int) := by omega
        have HB := Lib.hid hB
        clear hr1 hr2 hl1 hl2 hc1 hc2 hB
        cases hq : p k with
        | false =>
          rw [hq] at hrun
          have HQ := Lib.hid hq
          clear hq
          go_wp2_with fail
          go_quiet (fail)
          go_wp2_with fail
          go_ret
          have ha : anyN (fun j => !p j) N = true := by unfold anyN; rw [List.any_eq_true]; exact ⟨k, by simpa using hlt, by simp [HQ.out]⟩
          exact ⟨by rw [ha]; rfl, below_drewN HB.out _⟩
        | true =>
          rw [hq] at hrun
          have HQ := Lib.hid hq
          clear hq
          go_wp2_with fail
          go_quiet (fail)
          go_wp2_with fail
          go_roundg (N - (k + 1))
          case measure => omega
          case rel => exact ⟨k + 1, by omega, by omega, by go_num, below_drewN HB.out _, Lib.hid fun j hj => by rcases (show j < k ∨ j = k by omega) with h9 | rfl; exact HA.out j h9; exact HQ.out⟩
      · obtain rfl : k = N := by omega
        have hltz : decide ((k : Int) < (k : Int)) = false := by simp
        have HB := Lib.hid hB
        clear hB
        go_wp2_with fail
        go_ret
        have ha : anyN (fun j => !p j) k = false := by unfold anyN; rw [List.any_eq_false]; intro j hj; simp [HA.out j (by simpa using hj)]
        exact ⟨by rw [ha]; rfl, HB.out⟩
  · rw [decide_eq_false hlen, Bool.false_and]
    have hne : ((rows.length : Int) != (cols.length : Int)) = true := bne_iff_ne.2 (by omega)
    clear hr hc hp
    go_enter Tryz.func52, Tryz.ntmps52
    go_wp2_with fail
    go_ret
    exact ⟨rfl, Below.refl _ _⟩
/-- what is asked of a function that tells two apart -/
def PredRow2 (g : Nat) (rows cols : List (List Value)) (p : Nat → Bool) (w : World) : Prop :=
  ∀ (W : World) (j : Nat) (r1 r2 : List Value), rows[j]? = some r1 → cols[j]? = some r2 → Below w.heap.size w W → Calls Tryz.prog g #[.agg r1.toArray, .agg r2.toArray] W fun e w' => e = .returned (.bool (p j)) ∧ Below W.heap.size W w'
set_option maxRecDepth 100000 in
set_option maxHeartbeats 2000000 in
theorem equalf_func (la lb : Option Addr) (c d : Nat) (rows cols : List (List Value)) (p : Nat → Bool) (g : Nat) (eg : ∀ args w, (callFunc g args).run Tryz.prog w = .ok (.enter g args) w) (w : World) (hr : RowAt w 3 (.slice la rows.length c) rows) (hc : RowAt w 3 (.slice lb cols.length d) cols)
    (h1 : ∀ r ∈ rows, ∃ a s b n c, r = [.int .i64 a, .string s, .slice b n c]) (h2 : ∀ r ∈ cols, ∃ a s b n c, r = [.int .i64 a, .string s, .slice b n c])
    (hp : PredRow2 g rows cols p w) :
    Calls Tryz.prog 47 #[.slice la rows.length c, .slice lb cols.length d, .func (.func g) #[] #[]] w fun e w' => e = .returned (.bool (decide (rows.length = cols.length) && !anyN (fun j => !p j) rows.length)) ∧ Below w.heap.size w w' := by
  by_cases hlen : rows.length = cols.length
  · obtain ⟨la', c', hv, hle, hr⟩ := hr
    obtain ⟨rfl, rfl⟩ : la = la' ∧ c = c' := by simp only [Value.slice.injEq] at hv; exact ⟨hv.1, hv.2.2⟩
    obtain ⟨lb', d', hv2, _, hc⟩ := hc
    obtain ⟨rfl, rfl⟩ : lb = lb' ∧ d = d' := by simp only [Value.slice.injEq] at hv2; exact ⟨hv2.1, hv2.2.2⟩
    rw [decide_eq_true hlen, Bool.true_and]
    have HLEN := Lib.hid hlen
    rw [← hlen]
    obtain ⟨N, hN⟩ : ∃ N, rows.length = N := ⟨_, rfl⟩
    have HN := Lib.hid hN
    rw [hN] at hle ⊢
    have HR := Lib.hid hr
    have HC := Lib.hid hc
    have HP := Lib.hid hp
    have H1 := Lib.hid h1
    have H2 := Lib.hid h2
    have hne : ((N : Int) != (N : Int)) = false := by simp
    clear hr hc hp hv hv2 hlen hN h1 h2
    go_enter Tryz.func47, Tryz.ntmps47
    go_wp2_with fail
    go_loopg [7, 8, 9, 17] N (fun gk _ _ _ s17 wr => ∃ k : Nat, k ≤ N ∧ N - k ≤ gk ∧ s17 = .int .i64 k ∧ Below w.heap.size w wr ∧ Hid (∀ j, j < k → p j = true))
    case atStart => exact ⟨0, Nat.zero_le _, by omega, rfl, Below.refl _ w, Lib.hid fun j hj => absurd hj (Nat.not_lt_zero _)⟩
    case round =>
      obtain ⟨k, hk, hg, rfl, hB, HA⟩ := hrel
      by_cases hlt : k < N
      · obtain ⟨r1, hr1⟩ : ∃ r, rows[k]? = some r := ⟨_, List.getElem?_eq_getElem (by have := HN.out; omega)⟩
        obtain ⟨r2, hr2⟩ : ∃ r, cols[k]? = some r := ⟨_, List.getElem?_eq_getElem (by have := HN.out; have := HLEN.out; omega)⟩
        obtain ⟨a1, s1, p1, n1, q1, rfl⟩ := H1.out r1 (List.mem_of_getElem? hr1)
        obtain ⟨a2, s2, p2, n2, q2, rfl⟩ := H2.out r2 (List.mem_of_getElem? hr2)
        obtain ⟨_, b1, o1, rfl, hb1, hc1⟩ := HR.out k _ hr1
        obtain ⟨_, b2, o2, rfl, hb2, hc2⟩ := HC.out k _ hr2
        have e0 : wr.cell? ⟨b1, o1 + k * 3, none⟩ = some (.int .i64 a1) := (hB.cell (p := ⟨b1, o1 + k * 3 + 0, none⟩) hb1).trans (hc1 0 _ rfl)
        have f0 : wr.cell? ⟨b2, o2 + k * 3, none⟩ = some (.int .i64 a2) := (hB.cell (p := ⟨b2, o2 + k * 3 + 0, none⟩) hb2).trans (hc2 0 _ rfl)
        have e1 : wr.cell? ⟨b1, o1 + k * 3 + 1, none⟩ = some (.string s1) := (hB.cell (p := ⟨b1, o1 + k * 3 + 1, none⟩) hb1).trans (hc1 1 _ rfl)
        have f1 : wr.cell? ⟨b2, o2 + k * 3 + 1, none⟩ = some (.string s2) := (hB.cell (p := ⟨b2, o2 + k * 3 + 1, none⟩) hb2).trans (hc2 1 _ rfl)
        have e2 : wr.cell? ⟨b1, o1 + k * 3 + 2, none⟩ = some (.slice p1 n1 q1) := (hB.cell (p := ⟨b1, o1 + k * 3 + 2, none⟩) hb1).trans (hc1 2 _ rfl)
        have f2 : wr.cell? ⟨b2, o2 + k * 3 + 2, none⟩ = some (.slice p2 n2 q2) := (hB.cell (p := ⟨b2, o2 + k * 3 + 2, none⟩) hb2).trans (hc2 2 _ rfl)
        have hltz : decide ((k : Int) < (N : Int)) = true := decide_eq_true (by omega)
        have hltn : decide (k < N) = true := decide_eq_true hlt
        have hk0 : (0 : Int) ≤ (k : Int) := by omega
        have hk1 : (k : Int) < (N : Int) := by omega
        have g1 : b1 < wr.heap.size := Nat.lt_of_lt_of_le hb1 hB.size
        have g2 : b2 < wr.heap.size := Nat.lt_of_lt_of_le hb2 hB.size
        have HBX := Lib.hid ((hB.alloc hB.size (.cells #[.int .i64 a1, .string s1, .slice p1 n1 q1] 33)).alloc (by have := hB.size; simp; omega) (.cells #[.int .i64 a2, .string s2, .slice p2 n2 q2] 33))
        have hcall := HP.out ((wr.alloc (.cells #[.int .i64 a1, .string s1, .slice p1 n1 q1] 33)).alloc (.cells #[.int .i64 a2, .string s2, .slice p2 n2 q2] 33)) k _ _ hr1 hr2 HBX.out
        clear hr1 hr2 hc1 hc2 hB hb1 hb2
        cases hq : p k with
        | false =>
          rw [hq] at hcall
          have HQ := Lib.hid hq
          clear hq
          go_wp2_with (go_at_fn g; refine hcall.mono ?_; rintro e w' ⟨rfl, hb'⟩)
          go_ret
          have ha : anyN (fun j => !p j) N = true := by unfold anyN; rw [List.any_eq_true]; exact ⟨k, by simpa using hlt, by simp [HQ.out]⟩
          exact ⟨by rw [ha]; rfl, HBX.out.trans (hb'.mono HBX.out.size)⟩
        | true =>
          rw [hq] at hcall
          have HQ := Lib.hid hq
          clear hq
          go_wp2_with (go_at_fn g; refine hcall.mono ?_; rintro e w' ⟨rfl, hb'⟩)
          go_roundg (N - (k + 1))
          case measure => omega
          case rel => exact ⟨k + 1, by omega, by omega, by go_num, HBX.out.trans (hb'.mono HBX.out.size), Lib.hid fun j hj => by rcases (show j < k ∨ j = k by omega) with h9 | rfl; exact HA.out j h9; exact HQ.out⟩
      · obtain rfl : k = N := by omega
        have hltz : decide ((k : Int) < (k : Int)) = false := by simp
        have HB := Lib.hid hB
        clear hB
        go_wp2_with fail
        go_ret
        have ha : anyN (fun j => !p j) k = false := by unfold anyN; rw [List.any_eq_false]; intro j hj; simp [HA.out j (by simpa using hj)]
        exact ⟨by rw [ha]; rfl, HB.out⟩
  · rw [decide_eq_false hlen, Bool.false_and]
    have hne : ((rows.length : Int) != (cols.length : Int)) = true := bne_iff_ne.2 (by omega)
    clear hr hc hp h1 h2
    go_enter Tryz.func47, Tryz.ntmps47
    go_wp2_with fail
    go_ret
    exact ⟨rfl, Below.refl _ _⟩
set_option maxRecDepth 100000 in
set_option maxHeartbeats 2000000 in
theorem equalf_ins (la lb : Option Addr) (c d : Nat) (rows cols : List (List Value)) (p : Nat → Bool) (g : Nat) (eg : ∀ args w, (callFunc g args).run Tryz.prog w = .ok (.enter g args) w) (w : World) (hr : RowAt w 4 (.slice la rows.length c) rows) (hc : RowAt w 4 (.slice lb cols.length d) cols)
    (h1 : ∀ r ∈ rows, ∃ a s t b n c, r = [.int .i64 a, .int .i64 s, .int .i64 t, .slice b n c]) (h2 : ∀ r ∈ cols, ∃ a s t b n c, r = [.int .i64 a, .int .i64 s, .int .i64 t, .slice b n c])
    (hp : PredRow2 g rows cols p w) :
    Calls Tryz.prog 87 #[.slice la rows.length c, .slice lb cols.length d, .func (.func g) #[] #[]] w fun e w' => e = .returned (.bool (decide (rows.length = cols.length) && !anyN (fun j => !p j) rows.length)) ∧ Below w.heap.size w w' := by
  by_cases hlen : rows.length = cols.length
  · obtain ⟨la', c', hv, hle, hr⟩ := hr
    obtain ⟨rfl, rfl⟩ : la = la' ∧ c = c' := by simp only [Value.slice.injEq] at hv; exact ⟨hv.1, hv.2.2⟩
    obtain ⟨lb', d', hv2, _, hc⟩ := hc
    obtain ⟨rfl, rfl⟩ : lb = lb' ∧ d = d' := by simp only [Value.slice.injEq] at hv2; exact ⟨hv2.1, hv2.2.2⟩
    rw [decide_eq_true hlen, Bool.true_and]
    have HLEN := Lib.hid hlen
    rw [← hlen]
    obtain ⟨N, hN⟩ : ∃ N, rows.length = N := ⟨_, rfl⟩
    have HN := Lib.hid hN
    rw [hN] at hle ⊢
    have HR := Lib.hid hr
    have HC := Lib.hid hc
    have HP := Lib.hid hp
    have H1 := Lib.hid h1
    have H2 := Lib.hid h2
    have hne : ((N : Int) != (N : Int)) = false := by simp
    clear hr hc hp hv hv2 hlen hN h1 h2
    go_enter Tryz.func87, Tryz.ntmps87
    go_wp2_with fail
    go_loopg [7, 8, 9, 17] N (fun gk _ _ _ s17 wr => ∃ k : Nat, k ≤ N ∧ N - k ≤ gk ∧ s17 = .int .i64 k ∧ Below w.heap.size w wr ∧ Hid (∀ j, j < k → p j = true))
    case atStart => exact ⟨0, Nat.zero_le _, by omega, rfl, Below.refl _ w, Lib.hid fun j hj => absurd hj (Nat.not_lt_zero _)⟩
    case round =>
      obtain ⟨k, hk, hg, rfl, hB, HA⟩ := hrel
      by_cases hlt : k < N
      · obtain ⟨r1, hr1⟩ : ∃ r, rows[k]? = some r := ⟨_, List.getElem?_eq_getElem (by have := HN.out; omega)⟩
        obtain ⟨r2, hr2⟩ : ∃ r, cols[k]? = some r := ⟨_, List.getElem?_eq_getElem (by have := HN.out; have := HLEN.out; omega)⟩
        obtain ⟨a1, s1, t1, p1, n1, q1, rfl⟩ := H1.out r1 (List.mem_of_getElem? hr1)
        obtain ⟨a2, s2, t2, p2, n2, q2, rfl⟩ := H2.out r2 (List.mem_of_getElem? hr2)
        obtain ⟨_, b1, o1, rfl, hb1, hc1⟩ := HR.out k _ hr1
        obtain ⟨_, b2, o2, rfl, hb2, hc2⟩ := HC.out k _ hr2
        have e0 : wr.cell? ⟨b1, o1 + k * 4, none⟩ = some (.int .i64 a1) := (hB.cell (p := ⟨b1, o1 + k * 4 + 0, none⟩) hb1).trans (hc1 0 _ rfl)
        have f0 : wr.cell? ⟨b2, o2 + k * 4, none⟩ = some (.int .i64 a2) := (hB.cell (p := ⟨b2, o2 + k * 4 + 0, none⟩) hb2).trans (hc2 0 _ rfl)
        have e1 : wr.cell? ⟨b1, o1 + k * 4 + 1, none⟩ = some (.int .i64 s1) := (hB.cell (p := ⟨b1, o1 + k * 4 + 1, none⟩) hb1).trans (hc1 1 _ rfl)
        have f1 : wr.cell? ⟨b2, o2 + k * 4 + 1, none⟩ = some (.int .i64 s2) := (hB.cell (p := ⟨b2, o2 + k * 4 + 1, none⟩) hb2).trans (hc2 1 _ rfl)
        have e2 : wr.cell? ⟨b1, o1 + k * 4 + 2, none⟩ = some (.int .i64 t1) := (hB.cell (p := ⟨b1, o1 + k * 4 + 2, none⟩) hb1).trans (hc1 2 _ rfl)
        have f2 : wr.cell? ⟨b2, o2 + k * 4 + 2, none⟩ = some (.int .i64 t2) := (hB.cell (p := ⟨b2, o2 + k * 4 + 2, none⟩) hb2).trans (hc2 2 _ rfl)
        have e3 : wr.cell? ⟨b1, o1 + k * 4 + 3, none⟩ = some (.slice p1 n1 q1) := (hB.cell (p := ⟨b1, o1 + k * 4 + 3, none⟩) hb1).trans (hc1 3 _ rfl)
        have f3 : wr.cell? ⟨b2, o2 + k * 4 + 3, none⟩ = some (.slice p2 n2 q2) := (hB.cell (p := ⟨b2, o2 + k * 4 + 3, none⟩) hb2).trans (hc2 3 _ rfl)
        have hltz : decide ((k : Int) < (N : Int)) = true := decide_eq_true (by omega)
        have hltn : decide (k < N) = true := decide_eq_true hlt
        have hk0 : (0 : Int) ≤ (k : Int) := by omega
        have hk1 : (k : Int) < (N : Int) := by omega
        have g1 : b1 < wr.heap.size := Nat.lt_of_lt_of_le hb1 hB.size
        have g2 : b2 < wr.heap.size := Nat.lt_of_lt_of_le hb2 hB.size
        have HBX := Lib.hid ((hB.alloc hB.size (.cells #[.int .i64 a1, .int .i64 s1, .int .i64 t1, .slice p1 n1 q1] 40)).alloc (by have := hB.size; simp; omega) (.cells #[.int .i64 a2, .int .i64 s2, .int .i64 t2, .slice p2 n2 q2] 40))
        have hcall := HP.out ((wr.alloc (.cells #[.int .i64 a1, .int .i64 s1, .int .i64 t1, .slice p1 n1 q1] 40)).alloc (.cells #[.int .i64 a2, .int .i64 s2, .int .i64 t2, .slice p2 n2 q2] 40)) k _ _ hr1 hr2 HBX.out
        clear hr1 hr2 hc1 hc2 hB hb1 hb2
        cases hq : p k with
        | false =>
          rw [hq] at hcall
          have HQ := Lib.hid hq
          clear hq
          go_wp2_with (go_at_fn g; refine hcall.mono ?_; rintro e w' ⟨rfl, hb'⟩)
          go_ret
          have ha : anyN (fun j => !p j) N = true := by unfold anyN; rw [List.any_eq_true]; exact ⟨k, by simpa using hlt, by simp [HQ.out]⟩
          exact ⟨by rw [ha]; rfl, HBX.out.trans (hb'.mono HBX.out.size)⟩
        | true =>
          rw [hq] at hcall
          have HQ := Lib.hid hq
          clear hq
          go_wp2_with (go_at_fn g; refine hcall.mono ?_; rintro e w' ⟨rfl, hb'⟩)
          go_roundg (N - (k + 1))
          case measure => omega
          case rel => exact ⟨k + 1, by omega, by omega, by go_num, HBX.out.trans (hb'.mono HBX.out.size), Lib.hid fun j hj => by rcases (show j < k ∨ j = k by omega) with h9 | rfl; exact HA.out j h9; exact HQ.out⟩
      · obtain rfl : k = N := by omega
        have hltz : decide ((k : Int) < (k : Int)) = false := by simp
        have HB := Lib.hid hB
        clear hB
        go_wp2_with fail
        go_ret
        have ha : anyN (fun j => !p j) k = false := by unfold anyN; rw [List.any_eq_false]; intro j hj; simp [HA.out j (by simpa using hj)]
        exact ⟨by rw [ha]; rfl, HB.out⟩
  · rw [decide_eq_false hlen, Bool.false_and]
    have hne : ((rows.length : Int) != (cols.length : Int)) = true := bne_iff_ne.2 (by omega)
    clear hr hc hp h1 h2
    go_enter Tryz.func87, Tryz.ntmps87
    go_wp2_with fail
    go_ret
    exact ⟨rfl, Below.refl _ _⟩
end Go.Proofs.YtkemaonhchklmaaGreatDoor.Mod
