/-
  What the reference's numbers of chapter 3 answer. No condition beyond what each theorem names.
-/
import Derived.Test.YtlbgbpgjccbbjaaDoorOpRefA
import Derived.Lib.OwnKind
import Derived.Outline
namespace Go.Proofs.YtlbgbpgjccbbjaaDoor.Op
open Go.RowKit Go.Maps
set_option linter.unusedVariables false
def testsN : List ByteArray := [⟨#[101, 113]⟩, ⟨#[110, 101]⟩, ⟨#[108, 116, 95, 115]⟩, ⟨#[108, 116, 95, 117]⟩, ⟨#[103, 116, 95, 115]⟩, ⟨#[103, 116, 95, 117]⟩, ⟨#[108, 101, 95, 115]⟩, ⟨#[108, 101, 95, 117]⟩, ⟨#[103, 101, 95, 115]⟩, ⟨#[103, 101, 95, 117]⟩]
def allN : List ByteArray := [⟨#[99, 108, 122]⟩, ⟨#[99, 116, 122]⟩, ⟨#[112, 111, 112, 99, 110, 116]⟩, ⟨#[97, 100, 100]⟩, ⟨#[115, 117, 98]⟩, ⟨#[109, 117, 108]⟩, ⟨#[100, 105, 118, 95, 115]⟩, ⟨#[100, 105, 118, 95, 117]⟩, ⟨#[114, 101, 109, 95, 115]⟩, ⟨#[114, 101, 109, 95, 117]⟩, ⟨#[97, 110, 100]⟩, ⟨#[111, 114]⟩, ⟨#[120, 111, 114]⟩, ⟨#[115, 104, 108]⟩, ⟨#[115, 104, 114, 95, 115]⟩, ⟨#[115, 104, 114, 95, 117]⟩, ⟨#[114, 111, 116, 108]⟩, ⟨#[114, 111, 116, 114]⟩]
def testsA : Array Value := #[.string ⟨#[101, 113]⟩, .string ⟨#[110, 101]⟩, .string ⟨#[108, 116, 95, 115]⟩, .string ⟨#[108, 116, 95, 117]⟩, .string ⟨#[103, 116, 95, 115]⟩, .string ⟨#[103, 116, 95, 117]⟩, .string ⟨#[108, 101, 95, 115]⟩, .string ⟨#[108, 101, 95, 117]⟩, .string ⟨#[103, 101, 95, 115]⟩, .string ⟨#[103, 101, 95, 117]⟩]
def allA : Array Value := #[.string ⟨#[99, 108, 122]⟩, .string ⟨#[99, 116, 122]⟩, .string ⟨#[112, 111, 112, 99, 110, 116]⟩, .string ⟨#[97, 100, 100]⟩, .string ⟨#[115, 117, 98]⟩, .string ⟨#[109, 117, 108]⟩, .string ⟨#[100, 105, 118, 95, 115]⟩, .string ⟨#[100, 105, 118, 95, 117]⟩, .string ⟨#[114, 101, 109, 95, 115]⟩, .string ⟨#[114, 101, 109, 95, 117]⟩, .string ⟨#[97, 110, 100]⟩, .string ⟨#[111, 114]⟩, .string ⟨#[120, 111, 114]⟩, .string ⟨#[115, 104, 108]⟩, .string ⟨#[115, 104, 114, 95, 115]⟩, .string ⟨#[115, 104, 114, 95, 117]⟩, .string ⟨#[114, 111, 116, 108]⟩, .string ⟨#[114, 111, 116, 114]⟩]
theorem tests_at (k : Nat) (h : k < 10) : testsA[k]? = some (.string (testsN.getD k ⟨#[]⟩)) := by
  rcases k with _ | _ | _ | _ | _ | _ | _ | _ | _ | _ | k <;> first | rfl | omega
theorem all_at (k : Nat) (h : k < 18) : allA[k]? = some (.string (allN.getD k ⟨#[]⟩)) := by
  rcases k with _ | _ | _ | _ | _ | _ | _ | _ | _ | _ | _ | _ | _ | _ | _ | _ | _ | _ | k <;> first | rfl | omega
theorem heap_new (w : World) (o : Obj) : (w.alloc o).heap[w.heap.size]? = some o := by
  show (w.heap.push o)[w.heap.size]? = some o
  simp
theorem tests_small (k : Nat) (h : k < 10) : (testsN.getD k ⟨#[]⟩).size < 100 := by
  rcases k with _ | _ | _ | _ | _ | _ | _ | _ | _ | _ | k <;> first | decide | omega
theorem all_small (k : Nat) (h : k < 18) : (allN.getD k ⟨#[]⟩).size < 100 := by
  rcases k with _ | _ | _ | _ | _ | _ | _ | _ | _ | _ | _ | _ | _ | _ | _ | _ | _ | _ | k <;> first | decide | omega
def t1Row (pre t : ByteArray) (zero : Int) (i : Nat) : Int × Info := (zero + 1 + i, ⟨pre ++ testsN.getD i ⟨#[]⟩, 0, t ++ t, ⟨#[127]⟩⟩)
def t2Row (pre t : ByteArray) (ops : Int) (i : Nat) : Int × Info := (ops + i, ⟨pre ++ allN.getD i ⟨#[]⟩, 0, if i < 3 then t else t ++ t, t⟩)
def t0Row (pre t : ByteArray) (zero : Int) : Int × Info := (zero, ⟨pre ++ ⟨#[101, 113, 122]⟩, 0, t, ⟨#[127]⟩⟩)
def numRows (pre t : ByteArray) (zero ops : Int) (a b : Nat) : List (Int × Info) := t0Row pre t zero :: ((List.range a).map (t1Row pre t zero) ++ (List.range b).map (t2Row pre t ops))
theorem numRows_t1 (pre t : ByteArray) (zero ops : Int) (a : Nat) : rowsV (numRows pre t zero ops (a + 1) 0) = rowsV (numRows pre t zero ops a 0) ++ rowV (t1Row pre t zero a) := by
  unfold rowsV numRows
  rw [List.range_succ, List.map_append]
  simp [List.flatMap_append]
theorem numRows_t2 (pre t : ByteArray) (zero ops : Int) (a b : Nat) : rowsV (numRows pre t zero ops a (b + 1)) = rowsV (numRows pre t zero ops a b) ++ rowV (t2Row pre t ops b) := by
  unfold rowsV numRows
  rw [List.range_succ, List.map_append]
  simp [List.flatMap_append]
def RelN (B : Nat) (w : World) (pre t : ByteArray) (zero ops : Int) (v : Value) (a b : Nat) (tb : Nat) (A : Array Value) (wr : World) : Prop := wr.ownsRow B 79 5 v (1 + a + b) (rowsV (numRows pre t zero ops a b)) ∧ Below B w wr ∧ tb < wr.heap.size ∧ wr.heap[tb]? = some (.cells A 9 (0, 0))
def RelN1 (B : Nat) (w : World) (pre t : ByteArray) (zero ops : Int) (tb : Nat) (v i : Value) (wr : World) : Prop := ∃ k : Nat, k ≤ 10 ∧ i = .int .i64 k ∧ RelN B w pre t zero ops v k 0 tb testsA wr
def RelN2 (B : Nat) (w : World) (pre t : ByteArray) (zero ops : Int) (tb : Nat) (v i : Value) (wr : World) : Prop := ∃ k : Nat, k ≤ 18 ∧ i = .int .i64 k ∧ RelN B w pre t zero ops v 10 k tb allA wr
theorem relN_step {B : Nat} {w : World} {pre t : ByteArray} {zero ops : Int} {v : Value} {a b : Nat} {tb : Nat} {A : Array Value} {wr : World} (h : RelN B w pre t zero ops v a b tb A wr) (hB : B ≤ w.heap.size) (o : Obj) (w1 : World) (hg : (wr.alloc o).grownBy w1 v.ownBlock) : Below B w w1 ∧ tb < w1.heap.size ∧ w1.heap[tb]? = some (.cells A 9 (0, 0)) := by
  obtain ⟨ho, hb, ht, hc⟩ := h
  have hs := hb.size
  refine ⟨(hb.alloc (Nat.le_trans hB hs) _).grown hg (by simp; omega) (fun k hk => (ho.lt k hk).1), ?_, ?_⟩
  · have := hg.size
    simp at this
    omega
  · rw [hg.block tb (by simp; omega) ?_]
    · exact (Lib.alloc_old wr o tb ht).trans hc
    · intro e
      obtain ⟨c, fz, hx⟩ := Lib.ownsRow_kind ho tb e.symm
      rw [hc] at hx
      injection hx with hx
      injection hx with _ hx _
      exact absurd hx (by decide)

set_option maxRecDepth 100000 in
set_option maxHeartbeats 1000000 in
theorem rnumbers_t (pre t : ByteArray) (zero ops : Int) (w : World) (hp : pre.size < 100) (ht : t.size < 100) (h0 : 0 ≤ zero) (h1 : zero < 1000) (h2 : 0 ≤ ops) (h3 : ops < 1000) :
    Calls Tryd.prog 56 #[.string pre, .string t, .int .i64 zero, .int .i64 ops] w (MadeRows w (numRows pre t zero ops 10 18)) := by
  obtain ⟨i0, hi, hz0, hz1, hz2⟩ := info_row_parts
  go_enter Tryd.func56, Tryd.ntmps56
  go_wp2_with (at_builtin; refine wpList_append_own _ rfl _ _ 76 rfl w.heap.size 79 i0 zeroRow 5 64 Tryd.underlying76 hi hz0 hz1 hz2 rfl (by decide) _ _ _ rfl ((World.ownsRow_nil w _ _ _).alloc _) ⟨w.heap.size, 0, none⟩ 1 1 (rowV (zero, ⟨pre ++ ⟨#[101, 113, 122]⟩, 0, t, ⟨#[127]⟩⟩)) rfl rfl ?c1 ?c2 ?c3 ?c4 ?c5 ?_)
  case c1 =>
    intro j u hj
    rw [show (⟨w.heap.size, 0, none⟩ : Addr).add j = ⟨w.heap.size, j, none⟩ by rw [Addr.add_lit, Nat.zero_add], World.cell?_alloc_at _ _ _ _ rfl, ← hj]
    simp [rowV]
  case c2 => exact one_rowV _
  case c3 => decide
  case c4 => omega
  case c5 => simp
  intro v1 w1 o1 g1 _
  have hb1 : Below w.heap.size w w1 := ((Below.refl _ w).alloc (Nat.le_refl _) _).grown g1 (by simp) (fun k hk => by simp [Value.ownBlock] at hk)
  have R1 := Lib.hid (show ∀ A, RelN w.heap.size w pre t zero ops v1 0 0 w1.heap.size A (w1.alloc (.cells A 9)) from fun A => ⟨o1.alloc _, hb1.alloc (by have := hb1.size; omega) _, by simp, heap_new _ _⟩)
  clear o1 g1 hb1
  go_wp2_with fail
  go_loopw [9, 11] (fun v i wr => RelN1 w.heap.size w pre t zero ops w1.heap.size v i wr) (fun _ i _ => 10 - (intOf i).toNat)
  case atStart => exact ⟨0, by omega, rfl, R1.out _⟩
  case round =>
    obtain ⟨k, hk, rfl, hrel⟩ := hrel
    by_cases hlt : k < 10
    · obtain ⟨nm, hnm⟩ : ∃ nm, testsN.getD k ⟨#[]⟩ = nm := ⟨_, rfl⟩
      have c0 : wr.cell? ⟨w1.heap.size, k, none⟩ = some (.string nm) := by rw [← hnm, cell_of_row wr _ k _ _ _ hrel.2.2.2]; exact tests_at k hlt
      have hsm : nm.size < 100 := by rw [← hnm]; exact tests_small k hlt
      have hd : decide ((k : Int) < 10) = true := decide_eq_true (by omega)
      have HNM := Lib.hid hnm
      clear hnm
      go_wp2_with (at_builtin; refine wpList_append_own _ rfl _ _ 76 rfl w.heap.size 79 i0 zeroRow 5 64 Tryd.underlying76 hi hz0 hz1 hz2 rfl (by decide) _ _ _ rfl (hrel.1.alloc _) ⟨wr.heap.size, 0, none⟩ 1 1 (rowV (zero + 1 + k, ⟨pre ++ nm, 0, t ++ t, ⟨#[127]⟩⟩)) rfl rfl ?c1 ?c2 ?c3 ?c4 ?c5 ?_)
      case c1 =>
        intro j u hj
        rw [show (⟨wr.heap.size, 0, none⟩ : Addr).add j = ⟨wr.heap.size, j, none⟩ by rw [Addr.add_lit, Nat.zero_add], World.cell?_alloc_at _ _ _ _ rfl, ← hj]
        simp [rowV]
      case c2 => exact one_rowV _
      case c3 => unfold maxLen; omega
      case c4 => omega
      case c5 => have := hrel.2.1.size; simp; omega
      intro v2 w2 o2 g2 _
      have R2 := Lib.hid (show RelN w.heap.size w pre t zero ops v2 (k + 1) 0 w1.heap.size testsA w2 by
        obtain ⟨x1, x2, x3⟩ := relN_step hrel (Nat.le_refl _) _ _ g2
        refine ⟨?_, x1, x2, x3⟩
        rw [numRows_t1, show 1 + (k + 1) + 0 = 1 + k + 0 + 1 by omega]
        unfold t1Row
        rw [HNM.out]
        exact o2)
      clear o2 g2 hrel
      go_wp2_with fail
      go_roundw
      case rel => exact ⟨k + 1, by omega, by go_num, R2.out⟩
      case measure => simp [intOf]; omega
    · obtain rfl : k = 10 := by omega
      rw [show ((10 : Nat) : Int) = 10 from rfl]
      have hd : decide ((10 : Int) < 10) = false := rfl
      have R2 := Lib.hid (show ∀ A, RelN w.heap.size w pre t zero ops u9 10 0 wr.heap.size A (wr.alloc (.cells A 9)) from fun A => ⟨hrel.1.alloc _, hrel.2.1.alloc hrel.2.1.size _, by simp, heap_new _ _⟩)
      clear hrel
      obtain ⟨W2, hW2⟩ : ∃ W2, W2 = wr := ⟨_, rfl⟩
      subst hW2
      go_wp2_with fail
      go_loopw [9, 13] (fun v i wr => RelN2 w.heap.size w pre t zero ops W2.heap.size v i wr) (fun _ i _ => 18 - (intOf i).toNat)
      case atStart => exact ⟨0, by omega, rfl, R2.out _⟩
      case round =>
        obtain ⟨k, hk, rfl, hrel⟩ := hrel
        by_cases hlt : k < 18
        · obtain ⟨nm, hnm⟩ : ∃ nm, allN.getD k ⟨#[]⟩ = nm := ⟨_, rfl⟩
          have c0 : wr.cell? ⟨W2.heap.size, k, none⟩ = some (.string nm) := by rw [← hnm, cell_of_row wr _ k _ _ _ hrel.2.2.2]; exact all_at k hlt
          have hsm : nm.size < 100 := by rw [← hnm]; exact all_small k hlt
          have hd : decide ((k : Int) < 18) = true := decide_eq_true (by omega)
          have HNM := Lib.hid hnm
          clear hnm
          obtain ⟨pp, hpp⟩ : ∃ pp, (if k < 3 then t else t ++ t) = pp := ⟨_, rfl⟩
          have HP := Lib.hid hpp
          have h3 := Lib.hid hrel.2.1.size
          have fin : ∀ (v2 : Value) (w2 : World), w2.ownsRow w.heap.size 79 5 v2 (1 + 10 + k + 1) (rowsV (numRows pre t zero ops 10 k) ++ rowV (ops + k, ⟨pre ++ nm, 0, pp, t⟩)) → (wr.alloc (.cells (rowV (ops + k, ⟨pre ++ nm, 0, pp, t⟩)).toArray 79)).grownBy w2 u9.ownBlock → RelN w.heap.size w pre t zero ops v2 10 (k + 1) W2.heap.size allA w2 := by
            intro v2 w2 o2 g2
            obtain ⟨x1, x2, x3⟩ := relN_step hrel (Nat.le_refl _) _ _ g2
            refine ⟨?_, x1, x2, x3⟩
            rw [numRows_t2, show 1 + 10 + (k + 1) = 1 + 10 + k + 1 by omega]
            unfold t2Row
            rw [HNM.out, HP.out]
            exact o2
          have fin := Lib.hid fin
          by_cases h3k : k < 3
          · rw [if_pos h3k] at hpp
            subst hpp
            have hd3 : decide ((k : Int) < 3) = true := decide_eq_true (by omega)
            go_wp2_with (at_builtin; refine wpList_append_own _ rfl _ _ 76 rfl w.heap.size 79 i0 zeroRow 5 64 Tryd.underlying76 hi hz0 hz1 hz2 rfl (by decide) _ _ _ rfl (hrel.1.alloc _) ⟨wr.heap.size, 0, none⟩ 1 1 (rowV (ops + k, ⟨pre ++ nm, 0, t, t⟩)) rfl rfl ?c1 ?c2 ?c3 ?c4 ?c5 ?_)
            case c1 =>
              intro j u hj
              rw [show (⟨wr.heap.size, 0, none⟩ : Addr).add j = ⟨wr.heap.size, j, none⟩ by rw [Addr.add_lit, Nat.zero_add], World.cell?_alloc_at _ _ _ _ rfl, ← hj]
              simp [rowV]
            case c2 => exact one_rowV _
            case c3 => unfold maxLen; omega
            case c4 => omega
            case c5 => have := hrel.2.1.size; simp; omega
            intro v2 w2 o2 g2 _
            have R4 := Lib.hid (fin.out v2 w2 o2 g2)
            clear o2 g2 hrel
            go_wp2_with fail
            go_roundw
            case rel => exact ⟨k + 1, by omega, by go_num, R4.out⟩
            case measure => simp [intOf]; omega
          · rw [if_neg h3k] at hpp
            subst hpp
            have hd3 : decide ((k : Int) < 3) = false := decide_eq_false (by omega)
            go_wp2_with (at_builtin; refine wpList_append_own _ rfl _ _ 76 rfl w.heap.size 79 i0 zeroRow 5 64 Tryd.underlying76 hi hz0 hz1 hz2 rfl (by decide) _ _ _ rfl (hrel.1.alloc _) ⟨wr.heap.size, 0, none⟩ 1 1 (rowV (ops + k, ⟨pre ++ nm, 0, t ++ t, t⟩)) rfl rfl ?c1 ?c2 ?c3 ?c4 ?c5 ?_)
            case c1 =>
              intro j u hj
              rw [show (⟨wr.heap.size, 0, none⟩ : Addr).add j = ⟨wr.heap.size, j, none⟩ by rw [Addr.add_lit, Nat.zero_add], World.cell?_alloc_at _ _ _ _ rfl, ← hj]
              simp [rowV]
            case c2 => exact one_rowV _
            case c3 => unfold maxLen; omega
            case c4 => omega
            case c5 => have := hrel.2.1.size; simp; omega
            intro v2 w2 o2 g2 _
            have R4 := Lib.hid (fin.out v2 w2 o2 g2)
            clear o2 g2 hrel
            go_wp2_with fail
            go_roundw
            case rel => exact ⟨k + 1, by omega, by go_num, R4.out⟩
            case measure => simp [intOf]; omega
        · obtain rfl : k = 18 := by omega
          have hd : decide (((18 : Nat) : Int) < 18) = false := rfl
          have R3 := Lib.hid hrel
          clear hrel
          go_wp2_with fail
          go_ret
          exact ⟨_, rfl, R3.out.1, R3.out.2.1⟩
end Go.Proofs.YtlbgbpgjccbbjaaDoor.Op
