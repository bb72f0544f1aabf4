/-
  OpRefA, OpRefB, OpRefC, OpCodeP, OpRefD, OpRefE, OpRefF, OpRefG in one.
-/
import Derived.Test.YteidhccnbfikcaaGreatDoorOpRg
import Derived.Lib.OwnKind
import Derived.Outline
import Derived.Test.YteidhccnbfikcaaGreatDoorOpW
/- OpRefA: What the reference's rows of chapter 3 answer. No condition beyond what each theorem names. -/
namespace Go.Proofs.YteidhccnbfikcaaGreatDoor.Op
open Go.RowKit Go.Maps
set_option linter.unusedVariables false
def rowV (e : Int × Info) : List Value := [.int .i64 e.1, .string e.2.name, .int .i64 e.2.shape, .string e.2.params, .string e.2.results]
def rowsV (l : List (Int × Info)) : List Value := l.flatMap rowV
def mkRow (code shape : Int) (p r : ByteArray) (names : List ByteArray) (i : Nat) : Int × Info := (code + i, ⟨names.getD i ⟨#[]⟩, shape, p, r⟩)
def mkRows (code shape : Int) (p r : ByteArray) (names : List ByteArray) (n : Nat) : List (Int × Info) := (List.range n).map (mkRow code shape p r names)
theorem mkRows_succ (code shape : Int) (p r : ByteArray) (names : List ByteArray) (n : Nat) : rowsV (mkRows code shape p r names (n + 1)) = rowsV (mkRows code shape p r names n) ++ rowV (mkRow code shape p r names n) := by
  unfold rowsV mkRows
  rw [List.range_succ, List.map_append, List.flatMap_append]
  simp
def MadeRows (w : World) (l : List (Int × Info)) (e : Ending) (w' : World) : Prop := ∃ v, e = .returned v ∧ w'.ownsRow w.heap.size 193 5 v l.length (rowsV l) ∧ Below w.heap.size w w'
def zeroRow : Value := .agg #[.int .i64 0, .string ⟨#[]⟩, .int .i64 0, .string ⟨#[]⟩, .string ⟨#[]⟩]
theorem info_row : (Tryz.prog.info? 193).map (fun i => (i.zero, i.size, i.bytes)) = some (some zeroRow, 5, 64) := by kernel_rfl
theorem info_row_parts : ∃ i, Tryz.prog.info? 193 = some i ∧ i.zero = some zeroRow ∧ i.size = 5 ∧ i.bytes = 64 := by
  have h := info_row
  rw [Option.map_eq_some_iff] at h
  obtain ⟨i, hi, he⟩ := h
  simp only [Prod.mk.injEq] at he
  exact ⟨i, hi, he.1, he.2.1, he.2.2⟩
theorem one_rowV (e : Int × Info) : ∀ u ∈ rowV e, u.oneCell' = true := by
  intro u hu
  simp [rowV] at hu
  rcases hu with rfl | rfl | rfl | rfl | rfl <;> rfl
def RelRows (w : World) (code shape : Int) (p r : ByteArray) (names : List ByteArray) (v i : Value) (wr : World) : Prop := ∃ k : Nat, k ≤ names.length ∧ i = .int .i64 k ∧ wr.ownsRow w.heap.size 193 5 v k (rowsV (mkRows code shape p r names k)) ∧ Below w.heap.size w wr
set_option maxRecDepth 100000 in
set_option maxHeartbeats 1000000 in
theorem rows_any (code shape : Int) (p r : ByteArray) (names : List ByteArray) (b c : Nat) (w : World) (h0 : 0 ≤ code) (h1 : code < 1000) (hn : names.length < 1000) (hb : b < w.heap.size) (hc : ∀ j, j < names.length → w.cell? ⟨b, j, none⟩ = some (.string (names.getD j ⟨#[]⟩))) :
    Calls Tryz.prog 184 #[.int .i64 code, .int .i64 shape, .string p, .string r, .slice (some ⟨b, 0, none⟩) names.length c] w (MadeRows w (mkRows code shape p r names names.length)) := by
  obtain ⟨i0, hi, hz0, hz1, hz2⟩ := info_row_parts
  have HC := Lib.hid hc
  clear hc
  go_enter Tryz.func184, Tryz.ntmps184
  go_wp2_with fail
  go_loopw [11, 12] (fun v i wr => RelRows w code shape p r names v i wr) (fun _ i _ => names.length - (intOf i).toNat)
  case atStart => exact ⟨0, Nat.zero_le _, rfl, World.ownsRow_nil _ _ _ _, Below.refl _ _⟩
  case round =>
    obtain ⟨k, hk, rfl, hown, hbel⟩ := hrel
    by_cases hlt : k < names.length
    · obtain ⟨nm, hnm⟩ : ∃ nm, names.getD k ⟨#[]⟩ = nm := ⟨_, rfl⟩
      have c0 : wr.cell? ⟨b, k, none⟩ = some (.string nm) := by rw [← hnm]; exact cell_later hbel (HC.out k hlt)
      have hd : decide (k < names.length) = true := decide_eq_true hlt
      have HNM := Lib.hid hnm
      clear hnm
      go_wp2_with (at_builtin; refine wpList_append_own _ rfl _ _ 190 rfl w.heap.size 193 i0 zeroRow 5 64 Tryz.underlying190 hi hz0 hz1 hz2 rfl (by decide) _ _ _ rfl (hown.alloc _) ⟨wr.heap.size, 0, none⟩ 1 1 (rowV (code + k, ⟨nm, shape, p, r⟩)) rfl rfl ?c1 ?c2 ?c3 ?c4 ?c5 ?_)
      case c1 =>
        intro j u hj
        rw [show (⟨wr.heap.size, 0, none⟩ : Addr).add j = ⟨wr.heap.size, j, none⟩ by rw [Addr.add_lit, Nat.zero_add], World.cell?_alloc_at _ _ _ _ rfl, ← hj]
        simp [rowV]
      case c2 => exact one_rowV _
      case c3 => unfold maxLen; omega
      case c4 => omega
      case c5 => have := hbel.size; simp; omega
      intro v' w1 hown1 hgrow _
      have hown2 := Lib.hid (show w1.ownsRow w.heap.size 193 5 v' (k + 1) (rowsV (mkRows code shape p r names (k + 1))) by
        rw [mkRows_succ]; unfold mkRow; rw [HNM.out]; exact hown1)
      have hbel1 : Below w.heap.size w w1 := (hbel.alloc hbel.size _).grown hgrow (by have := hbel.size; simp; omega) (fun k hk => (hown.lt k hk).1)
      clear hown1 hgrow hown
      go_wp2_with fail
      go_roundw
      case rel => exact ⟨k + 1, by omega, by go_num, hown2.out, hbel1⟩
      case measure => simp [intOf]; omega
    · obtain rfl : k = names.length := by omega
      have hd : decide (names.length < names.length) = false := by simp
      have HO := Lib.hid hown
      clear hown
      go_wp2_with fail
      go_ret
      exact ⟨_, rfl, by unfold mkRows; rw [List.length_map, List.length_range]; exact HO.out, hbel⟩
end Go.Proofs.YteidhccnbfikcaaGreatDoor.Op

/- OpRefB: What the reference's numbers of chapter 3 answer. No condition beyond what each theorem names. -/
namespace Go.Proofs.YteidhccnbfikcaaGreatDoor.Op
open Go.RowKit Go.Maps
set_option linter.unusedVariables false
def testsN : List ByteArray := [⟨#[101, 113]⟩, ⟨#[110, 101]⟩, ⟨#[108, 116, 95, 115]⟩, ⟨#[108, 116, 95, 117]⟩, ⟨#[103, 116, 95, 115]⟩, ⟨#[103, 116, 95, 117]⟩, ⟨#[108, 101, 95, 115]⟩, ⟨#[108, 101, 95, 117]⟩, ⟨#[103, 101, 95, 115]⟩, ⟨#[103, 101, 95, 117]⟩]
def allN : List ByteArray := [⟨#[99, 108, 122]⟩, ⟨#[99, 116, 122]⟩, ⟨#[112, 111, 112, 99, 110, 116]⟩, ⟨#[97, 100, 100]⟩, ⟨#[115, 117, 98]⟩, ⟨#[109, 117, 108]⟩, ⟨#[100, 105, 118, 95, 115]⟩, ⟨#[100, 105, 118, 95, 117]⟩, ⟨#[114, 101, 109, 95, 115]⟩, ⟨#[114, 101, 109, 95, 117]⟩, ⟨#[97, 110, 100]⟩, ⟨#[111, 114]⟩, ⟨#[120, 111, 114]⟩, ⟨#[115, 104, 108]⟩, ⟨#[115, 104, 114, 95, 115]⟩, ⟨#[115, 104, 114, 95, 117]⟩, ⟨#[114, 111, 116, 108]⟩, ⟨#[114, 111, 116, 114]⟩]
def testsA : Array Value := #[.string ⟨#[101, 113]⟩, .string ⟨#[110, 101]⟩, .string ⟨#[108, 116, 95, 115]⟩, .string ⟨#[108, 116, 95, 117]⟩, .string ⟨#[103, 116, 95, 115]⟩, .string ⟨#[103, 116, 95, 117]⟩, .string ⟨#[108, 101, 95, 115]⟩, .string ⟨#[108, 101, 95, 117]⟩, .string ⟨#[103, 101, 95, 115]⟩, .string ⟨#[103, 101, 95, 117]⟩]
def allA : Array Value := #[.string ⟨#[99, 108, 122]⟩, .string ⟨#[99, 116, 122]⟩, .string ⟨#[112, 111, 112, 99, 110, 116]⟩, .string ⟨#[97, 100, 100]⟩, .string ⟨#[115, 117, 98]⟩, .string ⟨#[109, 117, 108]⟩, .string ⟨#[100, 105, 118, 95, 115]⟩, .string ⟨#[100, 105, 118, 95, 117]⟩, .string ⟨#[114, 101, 109, 95, 115]⟩, .string ⟨#[114, 101, 109, 95, 117]⟩, .string ⟨#[97, 110, 100]⟩, .string ⟨#[111, 114]⟩, .string ⟨#[120, 111, 114]⟩, .string ⟨#[115, 104, 108]⟩, .string ⟨#[115, 104, 114, 95, 115]⟩, .string ⟨#[115, 104, 114, 95, 117]⟩, .string ⟨#[114, 111, 116, 108]⟩, .string ⟨#[114, 111, 116, 114]⟩]
theorem tests_at (k : Nat) (h : k < 10) : testsA[k]? = some (.string (testsN.getD k ⟨#[]⟩)) := by
  rcases k with _ | _ | _ | _ | _ | _ | _ | _ | _ | _ | k <;> first | rfl | omega
theorem all_at (k : Nat) (h : k < 18) : allA[k]? = some (.string (allN.getD k ⟨#[]⟩)) := by
  rcases k with _ | _ | _ | _ | _ | _ | _ | _ | _ | _ | _ | _ | _ | _ | _ | _ | _ | _ | k <;> first | rfl | omega
theorem heap_new (w : World) (o : Obj) : (w.alloc o).heap[w.heap.size]? = some o := by
  show (w.heap.push o)[w.heap.size]? = some o
  simp
theorem tests_small (k : Nat) (h : k < 10) : (testsN.getD k ⟨#[]⟩).size < 100 := by
  rcases k with _ | _ | _ | _ | _ | _ | _ | _ | _ | _ | k <;> first | decide | omega
theorem all_small (k : Nat) (h : k < 18) : (allN.getD k ⟨#[]⟩).size < 100 := by
  rcases k with _ | _ | _ | _ | _ | _ | _ | _ | _ | _ | _ | _ | _ | _ | _ | _ | _ | _ | k <;> first | decide | omega
def t1Row (pre t : ByteArray) (zero : Int) (i : Nat) : Int × Info := (zero + 1 + i, ⟨pre ++ testsN.getD i ⟨#[]⟩, 0, t ++ t, ⟨#[127]⟩⟩)
def t2Row (pre t : ByteArray) (ops : Int) (i : Nat) : Int × Info := (ops + i, ⟨pre ++ allN.getD i ⟨#[]⟩, 0, if i < 3 then t else t ++ t, t⟩)
def t0Row (pre t : ByteArray) (zero : Int) : Int × Info := (zero, ⟨pre ++ ⟨#[101, 113, 122]⟩, 0, t, ⟨#[127]⟩⟩)
def numRows (pre t : ByteArray) (zero ops : Int) (a b : Nat) : List (Int × Info) := t0Row pre t zero :: ((List.range a).map (t1Row pre t zero) ++ (List.range b).map (t2Row pre t ops))
theorem numRows_t1 (pre t : ByteArray) (zero ops : Int) (a : Nat) : rowsV (numRows pre t zero ops (a + 1) 0) = rowsV (numRows pre t zero ops a 0) ++ rowV (t1Row pre t zero a) := by
  unfold rowsV numRows
  rw [List.range_succ, List.map_append]
  simp [List.flatMap_append]
theorem numRows_t2 (pre t : ByteArray) (zero ops : Int) (a b : Nat) : rowsV (numRows pre t zero ops a (b + 1)) = rowsV (numRows pre t zero ops a b) ++ rowV (t2Row pre t ops b) := by
  unfold rowsV numRows
  rw [List.range_succ, List.map_append]
  simp [List.flatMap_append]
def RelN (B : Nat) (w : World) (pre t : ByteArray) (zero ops : Int) (v : Value) (a b : Nat) (tb : Nat) (A : Array Value) (wr : World) : Prop := wr.ownsRow B 193 5 v (1 + a + b) (rowsV (numRows pre t zero ops a b)) ∧ Below B w wr ∧ tb < wr.heap.size ∧ wr.heap[tb]? = some (.cells A 9 (0, 0))
def RelN1 (B : Nat) (w : World) (pre t : ByteArray) (zero ops : Int) (tb : Nat) (v i : Value) (wr : World) : Prop := ∃ k : Nat, k ≤ 10 ∧ i = .int .i64 k ∧ RelN B w pre t zero ops v k 0 tb testsA wr
def RelN2 (B : Nat) (w : World) (pre t : ByteArray) (zero ops : Int) (tb : Nat) (v i : Value) (wr : World) : Prop := ∃ k : Nat, k ≤ 18 ∧ i = .int .i64 k ∧ RelN B w pre t zero ops v 10 k tb allA wr
theorem relN_step {B : Nat} {w : World} {pre t : ByteArray} {zero ops : Int} {v : Value} {a b : Nat} {tb : Nat} {A : Array Value} {wr : World} (h : RelN B w pre t zero ops v a b tb A wr) (hB : B ≤ w.heap.size) (o : Obj) (w1 : World) (hg : (wr.alloc o).grownBy w1 v.ownBlock) : Below B w w1 ∧ tb < w1.heap.size ∧ w1.heap[tb]? = some (.cells A 9 (0, 0)) := by
  obtain ⟨ho, hb, ht, hc⟩ := h
  have hs := hb.size
  refine ⟨(hb.alloc (Nat.le_trans hB hs) _).grown hg (by simp; omega) (fun k hk => (ho.lt k hk).1), ?_, ?_⟩
  · have := hg.size
    simp at this
    omega
  · rw [hg.block tb (by simp; omega) ?_]
    · exact (Lib.alloc_old wr o tb ht).trans hc
    · intro e
      obtain ⟨c, fz, hx⟩ := Lib.ownsRow_kind ho tb e.symm
      rw [hc] at hx
      injection hx with hx
      injection hx with _ hx _
      exact absurd hx (by decide)

set_option maxRecDepth 100000 in
set_option maxHeartbeats 1000000 in
theorem rnumbers_t (pre t : ByteArray) (zero ops : Int) (w : World) (hp : pre.size < 100) (ht : t.size < 100) (h0 : 0 ≤ zero) (h1 : zero < 1000) (h2 : 0 ≤ ops) (h3 : ops < 1000) :
    Calls Tryz.prog 185 #[.string pre, .string t, .int .i64 zero, .int .i64 ops] w (MadeRows w (numRows pre t zero ops 10 18)) := by
  obtain ⟨i0, hi, hz0, hz1, hz2⟩ := info_row_parts
  go_enter Tryz.func185, Tryz.ntmps185
  go_wp2_with (at_builtin; refine wpList_append_own _ rfl _ _ 190 rfl w.heap.size 193 i0 zeroRow 5 64 Tryz.underlying190 hi hz0 hz1 hz2 rfl (by decide) _ _ _ rfl ((World.ownsRow_nil w _ _ _).alloc _) ⟨w.heap.size, 0, none⟩ 1 1 (rowV (zero, ⟨pre ++ ⟨#[101, 113, 122]⟩, 0, t, ⟨#[127]⟩⟩)) rfl rfl ?c1 ?c2 ?c3 ?c4 ?c5 ?_)
  case c1 =>
    intro j u hj
    rw [show (⟨w.heap.size, 0, none⟩ : Addr).add j = ⟨w.heap.size, j, none⟩ by rw [Addr.add_lit, Nat.zero_add], World.cell?_alloc_at _ _ _ _ rfl, ← hj]
    simp [rowV]
  case c2 => exact one_rowV _
  case c3 => decide
  case c4 => omega
  case c5 => simp
  intro v1 w1 o1 g1 _
  have hb1 : Below w.heap.size w w1 := ((Below.refl _ w).alloc (Nat.le_refl _) _).grown g1 (by simp) (fun k hk => by simp [Value.ownBlock] at hk)
  have R1 := Lib.hid (show ∀ A, RelN w.heap.size w pre t zero ops v1 0 0 w1.heap.size A (w1.alloc (.cells A 9)) from fun A => ⟨o1.alloc _, hb1.alloc (by have := hb1.size; omega) _, by simp, heap_new _ _⟩)
  clear o1 g1 hb1
  go_wp2_with fail
  go_loopw [9, 11] (fun v i wr => RelN1 w.heap.size w pre t zero ops w1.heap.size v i wr) (fun _ i _ => 10 - (intOf i).toNat)
  case atStart => exact ⟨0, by omega, rfl, R1.out _⟩
  case round =>
    obtain ⟨k, hk, rfl, hrel⟩ := hrel
    by_cases hlt : k < 10
    · obtain ⟨nm, hnm⟩ : ∃ nm, testsN.getD k ⟨#[]⟩ = nm := ⟨_, rfl⟩
      have c0 : wr.cell? ⟨w1.heap.size, k, none⟩ = some (.string nm) := by rw [← hnm, cell_of_row wr _ k _ _ _ hrel.2.2.2]; exact tests_at k hlt
      have hsm : nm.size < 100 := by rw [← hnm]; exact tests_small k hlt
      have hd : decide ((k : Int) < 10) = true := decide_eq_true (by omega)
      have HNM := Lib.hid hnm
      clear hnm
      go_wp2_with (at_builtin; refine wpList_append_own _ rfl _ _ 190 rfl w.heap.size 193 i0 zeroRow 5 64 Tryz.underlying190 hi hz0 hz1 hz2 rfl (by decide) _ _ _ rfl (hrel.1.alloc _) ⟨wr.heap.size, 0, none⟩ 1 1 (rowV (zero + 1 + k, ⟨pre ++ nm, 0, t ++ t, ⟨#[127]⟩⟩)) rfl rfl ?c1 ?c2 ?c3 ?c4 ?c5 ?_)
      case c1 =>
        intro j u hj
        rw [show (⟨wr.heap.size, 0, none⟩ : Addr).add j = ⟨wr.heap.size, j, none⟩ by rw [Addr.add_lit, Nat.zero_add], World.cell?_alloc_at _ _ _ _ rfl, ← hj]
        simp [rowV]
      case c2 => exact one_rowV _
      case c3 => unfold maxLen; omega
      case c4 => omega
      case c5 => have := hrel.2.1.size; simp; omega
      intro v2 w2 o2 g2 _
      have R2 := Lib.hid (show RelN w.heap.size w pre t zero ops v2 (k + 1) 0 w1.heap.size testsA w2 by
        obtain ⟨x1, x2, x3⟩ := relN_step hrel (Nat.le_refl _) _ _ g2
        refine ⟨?_, x1, x2, x3⟩
        rw [numRows_t1, show 1 + (k + 1) + 0 = 1 + k + 0 + 1 by omega]
        unfold t1Row
        rw [HNM.out]
        exact o2)
      clear o2 g2 hrel
      go_wp2_with fail
      go_roundw
      case rel => exact ⟨k + 1, by omega, by go_num, R2.out⟩
      case measure => simp [intOf]; omega
    · obtain rfl : k = 10 := by omega
      rw [show ((10 : Nat) : Int) = 10 from rfl]
      have hd : decide ((10 : Int) < 10) = false := rfl
      have R2 := Lib.hid (show ∀ A, RelN w.heap.size w pre t zero ops u9 10 0 wr.heap.size A (wr.alloc (.cells A 9)) from fun A => ⟨hrel.1.alloc _, hrel.2.1.alloc hrel.2.1.size _, by simp, heap_new _ _⟩)
      clear hrel
      obtain ⟨W2, hW2⟩ : ∃ W2, W2 = wr := ⟨_, rfl⟩
      subst hW2
      go_wp2_with fail
      go_loopw [9, 13] (fun v i wr => RelN2 w.heap.size w pre t zero ops W2.heap.size v i wr) (fun _ i _ => 18 - (intOf i).toNat)
      case atStart => exact ⟨0, by omega, rfl, R2.out _⟩
      case round =>
        obtain ⟨k, hk, rfl, hrel⟩ := hrel
        by_cases hlt : k < 18
        · obtain ⟨nm, hnm⟩ : ∃ nm, allN.getD k ⟨#[]⟩ = nm := ⟨_, rfl⟩
          have c0 : wr.cell? ⟨W2.heap.size, k, none⟩ = some (.string nm) := by rw [← hnm, cell_of_row wr _ k _ _ _ hrel.2.2.2]; exact all_at k hlt
          have hsm : nm.size < 100 := by rw [← hnm]; exact all_small k hlt
          have hd : decide ((k : Int) < 18) = true := decide_eq_true (by omega)
          have HNM := Lib.hid hnm
          clear hnm
          obtain ⟨pp, hpp⟩ : ∃ pp, (if k < 3 then t else t ++ t) = pp := ⟨_, rfl⟩
          have HP := Lib.hid hpp
          have h3 := Lib.hid hrel.2.1.size
          have fin : ∀ (v2 : Value) (w2 : World), w2.ownsRow w.heap.size 193 5 v2 (1 + 10 + k + 1) (rowsV (numRows pre t zero ops 10 k) ++ rowV (ops + k, ⟨pre ++ nm, 0, pp, t⟩)) → (wr.alloc (.cells (rowV (ops + k, ⟨pre ++ nm, 0, pp, t⟩)).toArray 193)).grownBy w2 u9.ownBlock → RelN w.heap.size w pre t zero ops v2 10 (k + 1) W2.heap.size allA w2 := by
            intro v2 w2 o2 g2
            obtain ⟨x1, x2, x3⟩ := relN_step hrel (Nat.le_refl _) _ _ g2
            refine ⟨?_, x1, x2, x3⟩
            rw [numRows_t2, show 1 + 10 + (k + 1) = 1 + 10 + k + 1 by omega]
            unfold t2Row
            rw [HNM.out, HP.out]
            exact o2
          have fin := Lib.hid fin
          by_cases h3k : k < 3
          · rw [if_pos h3k] at hpp
            subst hpp
            have hd3 : decide ((k : Int) < 3) = true := decide_eq_true (by omega)
            go_wp2_with (at_builtin; refine wpList_append_own _ rfl _ _ 190 rfl w.heap.size 193 i0 zeroRow 5 64 Tryz.underlying190 hi hz0 hz1 hz2 rfl (by decide) _ _ _ rfl (hrel.1.alloc _) ⟨wr.heap.size, 0, none⟩ 1 1 (rowV (ops + k, ⟨pre ++ nm, 0, t, t⟩)) rfl rfl ?c1 ?c2 ?c3 ?c4 ?c5 ?_)
            case c1 =>
              intro j u hj
              rw [show (⟨wr.heap.size, 0, none⟩ : Addr).add j = ⟨wr.heap.size, j, none⟩ by rw [Addr.add_lit, Nat.zero_add], World.cell?_alloc_at _ _ _ _ rfl, ← hj]
              simp [rowV]
            case c2 => exact one_rowV _
            case c3 => unfold maxLen; omega
            case c4 => omega
            case c5 => have := hrel.2.1.size; simp; omega
            intro v2 w2 o2 g2 _
            have R4 := Lib.hid (fin.out v2 w2 o2 g2)
            clear o2 g2 hrel
            go_wp2_with fail
            go_roundw
            case rel => exact ⟨k + 1, by omega, by go_num, R4.out⟩
            case measure => simp [intOf]; omega
          · rw [if_neg h3k] at hpp
            subst hpp
            have hd3 : decide ((k : Int) < 3) = false := decide_eq_false (by omega)
            go_wp2_with (at_builtin; refine wpList_append_own _ rfl _ _ 190 rfl w.heap.size 193 i0 zeroRow 5 64 Tryz.underlying190 hi hz0 hz1 hz2 rfl (by decide) _ _ _ rfl (hrel.1.alloc _) ⟨wr.heap.size, 0, none⟩ 1 1 (rowV (ops + k, ⟨pre ++ nm, 0, t ++ t, t⟩)) rfl rfl ?c1 ?c2 ?c3 ?c4 ?c5 ?_)
            case c1 =>
              intro j u hj
              rw [show (⟨wr.heap.size, 0, none⟩ : Addr).add j = ⟨wr.heap.size, j, none⟩ by rw [Addr.add_lit, Nat.zero_add], World.cell?_alloc_at _ _ _ _ rfl, ← hj]
              simp [rowV]
            case c2 => exact one_rowV _
            case c3 => unfold maxLen; omega
            case c4 => omega
            case c5 => have := hrel.2.1.size; simp; omega
            intro v2 w2 o2 g2 _
            have R4 := Lib.hid (fin.out v2 w2 o2 g2)
            clear o2 g2 hrel
            go_wp2_with fail
            go_roundw
            case rel => exact ⟨k + 1, by omega, by go_num, R4.out⟩
            case measure => simp [intOf]; omega
        · obtain rfl : k = 18 := by omega
          have hd : decide (((18 : Nat) : Int) < 18) = false := rfl
          have R3 := Lib.hid hrel
          clear hrel
          go_wp2_with fail
          go_ret
          exact ⟨_, rfl, R3.out.1, R3.out.2.1⟩
end Go.Proofs.YteidhccnbfikcaaGreatDoor.Op

/- OpRefC: What the reference's All of chapter 3 answers. No condition beyond what each theorem names. -/
namespace Go.Proofs.YteidhccnbfikcaaGreatDoor.Op
open Go.RowKit Go.Maps
set_option linter.unusedVariables false
theorem mkRows_len (code shape : Int) (p r : ByteArray) (names : List ByteArray) (n : Nat) : (mkRows code shape p r names n).length = n := by
  unfold mkRows; rw [List.length_map, List.length_range]
theorem numRows_len (pre t : ByteArray) (zero ops : Int) (a b : Nat) : (numRows pre t zero ops a b).length = 1 + a + b := by
  simp [numRows]; omega
theorem strs_at (names : List ByteArray) (A : Array Value) (hA : A = (names.map Value.string).toArray) (j : Nat) (h : j < names.length) : A[j]? = some (.string (names.getD j ⟨#[]⟩)) := by
  subst hA
  simp [h, List.getD]
theorem rows_new (code shape : Int) (p r : ByteArray) (names : List ByteArray) (A : Array Value) (hA : A = (names.map Value.string).toArray) (W : World) (c : Nat) (h0 : 0 ≤ code) (h1 : code < 1000) (hn : names.length < 1000) :
    Calls Tryz.prog 184 #[.int .i64 code, .int .i64 shape, .string p, .string r, .slice (some ⟨W.heap.size, 0, none⟩) names.length c] (W.alloc (.cells A 9)) (MadeRows (W.alloc (.cells A 9)) (mkRows code shape p r names names.length)) :=
  rows_any code shape p r names W.heap.size c _ h0 h1 hn (by simp) fun j hj => by
    rw [World.cell?_alloc_at _ _ _ _ rfl]
    exact strs_at names A hA j hj
def RelA (w : World) (n : Nat) (L : List (Int × Info)) (v : Value) (wr : World) : Prop := L.length = n ∧ wr.ownsRow w.heap.size 193 5 v n (rowsV L) ∧ Below w.heap.size w wr
theorem relA_call {w wr w1 : World} {n : Nat} {L : List (Int × Info)} {u : Value} (h : RelA w n L u wr) (o : Obj) (hb : Below (wr.alloc o).heap.size (wr.alloc o) w1) : RelA w n L u w1 :=
  ⟨h.1, ownsRow_later (h.2.1.alloc o) hb, (h.2.2.alloc h.2.2.size o).trans (hb.mono (by have := h.2.2.size; simp; omega))⟩
theorem relA_quiet {w wr w1 : World} {n : Nat} {L : List (Int × Info)} {u : Value} (h : RelA w n L u wr) (hb : Below wr.heap.size wr w1) : RelA w n L u w1 :=
  ⟨h.1, ownsRow_later h.2.1 hb, h.2.2.trans (hb.mono h.2.2.size)⟩
theorem relA_app {w w1 w2 : World} {n m N : Nat} {L R : List (Int × Info)} {u v2 : Value} (h : RelA w n L u w1) (hm : R.length = m) (hN : N = n + m) (o2 : w2.ownsRow w.heap.size 193 5 v2 (n + m) (rowsV L ++ rowsV R)) (g : w1.grownBy w2 u.ownBlock) : RelA w N (L ++ R) v2 w2 := by
  subst hN
  refine ⟨by rw [List.length_append, h.1, hm], ?_, h.2.2.grown g h.2.2.size (fun k hk => (h.2.1.lt k hk).1)⟩
  rw [show rowsV (L ++ R) = rowsV L ++ rowsV R by simp [rowsV]]
  exact o2
theorem row_slice {w : World} {B n : Nat} {v : Value} {xs : List Value} (h : w.ownsRow B 193 5 v n xs) (hn : 0 < n) : ∃ g cap, v = .slice (some ⟨g, 0, none⟩) n cap ∧ ∀ j u, xs[j]? = some u → w.cell? ((⟨g, 0, none⟩ : Addr).add j) = some u := by
  rcases h.2 with ⟨_, h0⟩ | ⟨g, cap, cur, rfl, _⟩
  · omega
  · exact ⟨g, cap, rfl, h.cells rfl⟩
theorem rowsV_len (l : List (Int × Info)) : (rowsV l).length = l.length * 5 := by
  induction l with
  | nil => rfl
  | cons a l ih => simp only [rowsV, List.flatMap_cons, List.length_append, List.length_cons] at *; simp [rowV, ih]; omega
theorem rowsV_one (l : List (Int × Info)) : ∀ u ∈ rowsV l, u.oneCell' = true := by
  intro u hu
  obtain ⟨e, _, he⟩ := List.mem_flatMap.1 hu
  exact one_rowV e u he
def part0 : List (Int × Info) := mkRows 0 0 ⟨#[]⟩ ⟨#[]⟩ [⟨#[117, 110, 114, 101, 97, 99, 104, 97, 98, 108, 101]⟩, ⟨#[110, 111, 112]⟩] 2
theorem part0_len : part0.length = 2 := mkRows_len _ _ _ _ _ _
def part1 : List (Int × Info) := mkRows 2 1 ⟨#[]⟩ ⟨#[]⟩ [⟨#[98, 108, 111, 99, 107]⟩, ⟨#[108, 111, 111, 112]⟩, ⟨#[105, 102]⟩] 3
theorem part1_len : part1.length = 3 := mkRows_len _ _ _ _ _ _
def part2 : List (Int × Info) := mkRows 5 0 ⟨#[]⟩ ⟨#[]⟩ [⟨#[101, 108, 115, 101]⟩] 1
theorem part2_len : part2.length = 1 := mkRows_len _ _ _ _ _ _
def part3 : List (Int × Info) := mkRows 11 0 ⟨#[]⟩ ⟨#[]⟩ [⟨#[101, 110, 100]⟩] 1
theorem part3_len : part3.length = 1 := mkRows_len _ _ _ _ _ _
def part4 : List (Int × Info) := mkRows 12 2 ⟨#[]⟩ ⟨#[]⟩ [⟨#[98, 114]⟩, ⟨#[98, 114, 95, 105, 102]⟩] 2
theorem part4_len : part4.length = 2 := mkRows_len _ _ _ _ _ _
def part5 : List (Int × Info) := mkRows 14 3 ⟨#[]⟩ ⟨#[]⟩ [⟨#[98, 114, 95, 116, 97, 98, 108, 101]⟩] 1
theorem part5_len : part5.length = 1 := mkRows_len _ _ _ _ _ _
def part6 : List (Int × Info) := mkRows 15 0 ⟨#[]⟩ ⟨#[]⟩ [⟨#[114, 101, 116, 117, 114, 110]⟩] 1
theorem part6_len : part6.length = 1 := mkRows_len _ _ _ _ _ _
def part7 : List (Int × Info) := mkRows 16 4 ⟨#[]⟩ ⟨#[]⟩ [⟨#[99, 97, 108, 108]⟩] 1
theorem part7_len : part7.length = 1 := mkRows_len _ _ _ _ _ _
def part8 : List (Int × Info) := mkRows 26 0 ⟨#[]⟩ ⟨#[]⟩ [⟨#[100, 114, 111, 112]⟩, ⟨#[115, 101, 108, 101, 99, 116]⟩] 2
theorem part8_len : part8.length = 2 := mkRows_len _ _ _ _ _ _
def part9 : List (Int × Info) := mkRows 32 4 ⟨#[]⟩ ⟨#[]⟩ [⟨#[108, 111, 99, 97, 108, 46, 103, 101, 116]⟩, ⟨#[108, 111, 99, 97, 108, 46, 115, 101, 116]⟩, ⟨#[108, 111, 99, 97, 108, 46, 116, 101, 101]⟩, ⟨#[103, 108, 111, 98, 97, 108, 46, 103, 101, 116]⟩, ⟨#[103, 108, 111, 98, 97, 108, 46, 115, 101, 116]⟩] 5
theorem part9_len : part9.length = 5 := mkRows_len _ _ _ _ _ _
def part10 : List (Int × Info) := mkRows 40 5 ⟨#[127]⟩ ⟨#[127]⟩ [⟨#[105, 51, 50, 46, 108, 111, 97, 100]⟩] 1
theorem part10_len : part10.length = 1 := mkRows_len _ _ _ _ _ _
def part11 : List (Int × Info) := mkRows 41 5 ⟨#[127]⟩ ⟨#[126]⟩ [⟨#[105, 54, 52, 46, 108, 111, 97, 100]⟩] 1
theorem part11_len : part11.length = 1 := mkRows_len _ _ _ _ _ _
def part12 : List (Int × Info) := mkRows 44 5 ⟨#[127]⟩ ⟨#[127]⟩ [⟨#[105, 51, 50, 46, 108, 111, 97, 100, 56, 95, 115]⟩, ⟨#[105, 51, 50, 46, 108, 111, 97, 100, 56, 95, 117]⟩, ⟨#[105, 51, 50, 46, 108, 111, 97, 100, 49, 54, 95, 115]⟩, ⟨#[105, 51, 50, 46, 108, 111, 97, 100, 49, 54, 95, 117]⟩] 4
theorem part12_len : part12.length = 4 := mkRows_len _ _ _ _ _ _
def part13 : List (Int × Info) := mkRows 48 5 ⟨#[127]⟩ ⟨#[126]⟩ [⟨#[105, 54, 52, 46, 108, 111, 97, 100, 56, 95, 115]⟩, ⟨#[105, 54, 52, 46, 108, 111, 97, 100, 56, 95, 117]⟩, ⟨#[105, 54, 52, 46, 108, 111, 97, 100, 49, 54, 95, 115]⟩, ⟨#[105, 54, 52, 46, 108, 111, 97, 100, 49, 54, 95, 117]⟩, ⟨#[105, 54, 52, 46, 108, 111, 97, 100, 51, 50, 95, 115]⟩, ⟨#[105, 54, 52, 46, 108, 111, 97, 100, 51, 50, 95, 117]⟩] 6
theorem part13_len : part13.length = 6 := mkRows_len _ _ _ _ _ _
def part14 : List (Int × Info) := mkRows 54 5 ⟨#[127, 127]⟩ ⟨#[]⟩ [⟨#[105, 51, 50, 46, 115, 116, 111, 114, 101]⟩] 1
theorem part14_len : part14.length = 1 := mkRows_len _ _ _ _ _ _
def part15 : List (Int × Info) := mkRows 55 5 ⟨#[127, 126]⟩ ⟨#[]⟩ [⟨#[105, 54, 52, 46, 115, 116, 111, 114, 101]⟩] 1
theorem part15_len : part15.length = 1 := mkRows_len _ _ _ _ _ _
def part16 : List (Int × Info) := mkRows 58 5 ⟨#[127, 127]⟩ ⟨#[]⟩ [⟨#[105, 51, 50, 46, 115, 116, 111, 114, 101, 56]⟩, ⟨#[105, 51, 50, 46, 115, 116, 111, 114, 101, 49, 54]⟩] 2
theorem part16_len : part16.length = 2 := mkRows_len _ _ _ _ _ _
def part17 : List (Int × Info) := mkRows 60 5 ⟨#[127, 126]⟩ ⟨#[]⟩ [⟨#[105, 54, 52, 46, 115, 116, 111, 114, 101, 56]⟩, ⟨#[105, 54, 52, 46, 115, 116, 111, 114, 101, 49, 54]⟩, ⟨#[105, 54, 52, 46, 115, 116, 111, 114, 101, 51, 50]⟩] 3
theorem part17_len : part17.length = 3 := mkRows_len _ _ _ _ _ _
def part18 : List (Int × Info) := mkRows 63 6 ⟨#[]⟩ ⟨#[127]⟩ [⟨#[109, 101, 109, 111, 114, 121, 46, 115, 105, 122, 101]⟩] 1
theorem part18_len : part18.length = 1 := mkRows_len _ _ _ _ _ _
def part19 : List (Int × Info) := mkRows 64 6 ⟨#[127]⟩ ⟨#[127]⟩ [⟨#[109, 101, 109, 111, 114, 121, 46, 103, 114, 111, 119]⟩] 1
theorem part19_len : part19.length = 1 := mkRows_len _ _ _ _ _ _
def part20 : List (Int × Info) := mkRows 65 7 ⟨#[]⟩ ⟨#[127]⟩ [⟨#[105, 51, 50, 46, 99, 111, 110, 115, 116]⟩] 1
theorem part20_len : part20.length = 1 := mkRows_len _ _ _ _ _ _
def part21 : List (Int × Info) := mkRows 66 7 ⟨#[]⟩ ⟨#[126]⟩ [⟨#[105, 54, 52, 46, 99, 111, 110, 115, 116]⟩] 1
theorem part21_len : part21.length = 1 := mkRows_len _ _ _ _ _ _
def part22 : List (Int × Info) := numRows ⟨#[105, 51, 50, 46]⟩ ⟨#[127]⟩ 69 103 10 18
theorem part22_len : part22.length = 29 := numRows_len _ _ _ _ _ _
def part23 : List (Int × Info) := numRows ⟨#[105, 54, 52, 46]⟩ ⟨#[126]⟩ 80 121 10 18
theorem part23_len : part23.length = 29 := numRows_len _ _ _ _ _ _
def part24 : List (Int × Info) := mkRows 167 0 ⟨#[126]⟩ ⟨#[127]⟩ [⟨#[105, 51, 50, 46, 119, 114, 97, 112, 95, 105, 54, 52]⟩] 1
theorem part24_len : part24.length = 1 := mkRows_len _ _ _ _ _ _
def part25 : List (Int × Info) := mkRows 172 0 ⟨#[127]⟩ ⟨#[126]⟩ [⟨#[105, 54, 52, 46, 101, 120, 116, 101, 110, 100, 95, 105, 51, 50, 95, 115]⟩, ⟨#[105, 54, 52, 46, 101, 120, 116, 101, 110, 100, 95, 105, 51, 50, 95, 117]⟩] 2
theorem part25_len : part25.length = 2 := mkRows_len _ _ _ _ _ _
def refL : List (Int × Info) := (((((((((((((((((((((((((([] ++ part0) ++ part1) ++ part2) ++ part3) ++ part4) ++ part5) ++ part6) ++ part7) ++ part8) ++ part9) ++ part10) ++ part11) ++ part12) ++ part13) ++ part14) ++ part15) ++ part16) ++ part17) ++ part18) ++ part19) ++ part20) ++ part21) ++ part22) ++ part23) ++ part24) ++ part25)
set_option maxRecDepth 100000 in
set_option maxHeartbeats 4000000 in
theorem rall_any (w : World) :
    Calls Tryz.prog 132 #[] w (MadeRows w refL) := by
  obtain ⟨i0, hi, hz0, hz1, hz2⟩ := info_row_parts
  have hR := Lib.hid (show RelA w 0 [] (.slice none 0 0) w from ⟨rfl, World.ownsRow_nil _ _ _ _, Below.refl _ _⟩)
  go_enter Tryz.func132, Tryz.ntmps132
  go_wp2_with fail
  refine (rows_new 0 0 ⟨#[]⟩ ⟨#[]⟩ [⟨#[117, 110, 114, 101, 97, 99, 104, 97, 98, 108, 101]⟩, ⟨#[110, 111, 112]⟩] _ rfl _ 2 (by decide) (by decide) (by decide)).mono ?_
  rintro e w1 ⟨v, rfl, ho, hb⟩
  change w1.ownsRow _ 193 5 v part0.length (rowsV part0) at ho
  have hR1 := relA_call hR.out _ hb
  rw [part0_len] at ho
  obtain ⟨g, cap, rfl, hcs⟩ := row_slice ho (by decide)
  have HCS := Lib.hid hcs
  clear ho hb hcs hR
  go_wp2_with (at_builtin; refine wpList_append_own _ rfl _ _ 190 rfl w.heap.size 193 i0 zeroRow 5 64 Tryz.underlying190 hi hz0 hz1 hz2 rfl (by decide) _ _ _ rfl hR1.2.1 ⟨g, 0, none⟩ 2 cap (rowsV part0) rfl (by rw [rowsV_len, part0_len]) HCS.out (rowsV_one _) (by decide) (by decide) hR1.2.2.size ?_)
  intro v2 w2 o2 g2 _
  have hR := Lib.hid (relA_app (N := 2) hR1 part0_len rfl o2 g2)
  clear o2 g2 hR1 HCS
  go_wp2_with fail
  refine (rows_new 2 1 ⟨#[]⟩ ⟨#[]⟩ [⟨#[98, 108, 111, 99, 107]⟩, ⟨#[108, 111, 111, 112]⟩, ⟨#[105, 102]⟩] _ rfl _ 3 (by decide) (by decide) (by decide)).mono ?_
  rintro e w1 ⟨v, rfl, ho, hb⟩
  change w1.ownsRow _ 193 5 v part1.length (rowsV part1) at ho
  have hR1 := relA_call hR.out _ hb
  rw [part1_len] at ho
  obtain ⟨g, cap, rfl, hcs⟩ := row_slice ho (by decide)
  have HCS := Lib.hid hcs
  clear ho hb hcs hR
  go_wp2_with (at_builtin; refine wpList_append_own _ rfl _ _ 190 rfl w.heap.size 193 i0 zeroRow 5 64 Tryz.underlying190 hi hz0 hz1 hz2 rfl (by decide) _ _ _ rfl hR1.2.1 ⟨g, 0, none⟩ 3 cap (rowsV part1) rfl (by rw [rowsV_len, part1_len]) HCS.out (rowsV_one _) (by decide) (by decide) hR1.2.2.size ?_)
  intro v2 w2 o2 g2 _
  have hR := Lib.hid (relA_app (N := 5) hR1 part1_len rfl o2 g2)
  clear o2 g2 hR1 HCS
  go_wp2_with fail
  refine (rows_new 5 0 ⟨#[]⟩ ⟨#[]⟩ [⟨#[101, 108, 115, 101]⟩] _ rfl _ 1 (by decide) (by decide) (by decide)).mono ?_
  rintro e w1 ⟨v, rfl, ho, hb⟩
  change w1.ownsRow _ 193 5 v part2.length (rowsV part2) at ho
  have hR1 := relA_call hR.out _ hb
  rw [part2_len] at ho
  obtain ⟨g, cap, rfl, hcs⟩ := row_slice ho (by decide)
  have HCS := Lib.hid hcs
  clear ho hb hcs hR
  go_wp2_with (at_builtin; refine wpList_append_own _ rfl _ _ 190 rfl w.heap.size 193 i0 zeroRow 5 64 Tryz.underlying190 hi hz0 hz1 hz2 rfl (by decide) _ _ _ rfl hR1.2.1 ⟨g, 0, none⟩ 1 cap (rowsV part2) rfl (by rw [rowsV_len, part2_len]) HCS.out (rowsV_one _) (by decide) (by decide) hR1.2.2.size ?_)
  intro v2 w2 o2 g2 _
  have hR := Lib.hid (relA_app (N := 6) hR1 part2_len rfl o2 g2)
  clear o2 g2 hR1 HCS
  go_wp2_with fail
  refine (rows_new 11 0 ⟨#[]⟩ ⟨#[]⟩ [⟨#[101, 110, 100]⟩] _ rfl _ 1 (by decide) (by decide) (by decide)).mono ?_
  rintro e w1 ⟨v, rfl, ho, hb⟩
  change w1.ownsRow _ 193 5 v part3.length (rowsV part3) at ho
  have hR1 := relA_call hR.out _ hb
  rw [part3_len] at ho
  obtain ⟨g, cap, rfl, hcs⟩ := row_slice ho (by decide)
  have HCS := Lib.hid hcs
  clear ho hb hcs hR
  go_wp2_with (at_builtin; refine wpList_append_own _ rfl _ _ 190 rfl w.heap.size 193 i0 zeroRow 5 64 Tryz.underlying190 hi hz0 hz1 hz2 rfl (by decide) _ _ _ rfl hR1.2.1 ⟨g, 0, none⟩ 1 cap (rowsV part3) rfl (by rw [rowsV_len, part3_len]) HCS.out (rowsV_one _) (by decide) (by decide) hR1.2.2.size ?_)
  intro v2 w2 o2 g2 _
  have hR := Lib.hid (relA_app (N := 7) hR1 part3_len rfl o2 g2)
  clear o2 g2 hR1 HCS
  go_wp2_with fail
  refine (rows_new 12 2 ⟨#[]⟩ ⟨#[]⟩ [⟨#[98, 114]⟩, ⟨#[98, 114, 95, 105, 102]⟩] _ rfl _ 2 (by decide) (by decide) (by decide)).mono ?_
  rintro e w1 ⟨v, rfl, ho, hb⟩
  change w1.ownsRow _ 193 5 v part4.length (rowsV part4) at ho
  have hR1 := relA_call hR.out _ hb
  rw [part4_len] at ho
  obtain ⟨g, cap, rfl, hcs⟩ := row_slice ho (by decide)
  have HCS := Lib.hid hcs
  clear ho hb hcs hR
  go_wp2_with (at_builtin; refine wpList_append_own _ rfl _ _ 190 rfl w.heap.size 193 i0 zeroRow 5 64 Tryz.underlying190 hi hz0 hz1 hz2 rfl (by decide) _ _ _ rfl hR1.2.1 ⟨g, 0, none⟩ 2 cap (rowsV part4) rfl (by rw [rowsV_len, part4_len]) HCS.out (rowsV_one _) (by decide) (by decide) hR1.2.2.size ?_)
  intro v2 w2 o2 g2 _
  have hR := Lib.hid (relA_app (N := 9) hR1 part4_len rfl o2 g2)
  clear o2 g2 hR1 HCS
  go_wp2_with fail
  refine (rows_new 14 3 ⟨#[]⟩ ⟨#[]⟩ [⟨#[98, 114, 95, 116, 97, 98, 108, 101]⟩] _ rfl _ 1 (by decide) (by decide) (by decide)).mono ?_
  rintro e w1 ⟨v, rfl, ho, hb⟩
  change w1.ownsRow _ 193 5 v part5.length (rowsV part5) at ho
  have hR1 := relA_call hR.out _ hb
  rw [part5_len] at ho
  obtain ⟨g, cap, rfl, hcs⟩ := row_slice ho (by decide)
  have HCS := Lib.hid hcs
  clear ho hb hcs hR
  go_wp2_with (at_builtin; refine wpList_append_own _ rfl _ _ 190 rfl w.heap.size 193 i0 zeroRow 5 64 Tryz.underlying190 hi hz0 hz1 hz2 rfl (by decide) _ _ _ rfl hR1.2.1 ⟨g, 0, none⟩ 1 cap (rowsV part5) rfl (by rw [rowsV_len, part5_len]) HCS.out (rowsV_one _) (by decide) (by decide) hR1.2.2.size ?_)
  intro v2 w2 o2 g2 _
  have hR := Lib.hid (relA_app (N := 10) hR1 part5_len rfl o2 g2)
  clear o2 g2 hR1 HCS
  go_wp2_with fail
  refine (rows_new 15 0 ⟨#[]⟩ ⟨#[]⟩ [⟨#[114, 101, 116, 117, 114, 110]⟩] _ rfl _ 1 (by decide) (by decide) (by decide)).mono ?_
  rintro e w1 ⟨v, rfl, ho, hb⟩
  change w1.ownsRow _ 193 5 v part6.length (rowsV part6) at ho
  have hR1 := relA_call hR.out _ hb
  rw [part6_len] at ho
  obtain ⟨g, cap, rfl, hcs⟩ := row_slice ho (by decide)
  have HCS := Lib.hid hcs
  clear ho hb hcs hR
  go_wp2_with (at_builtin; refine wpList_append_own _ rfl _ _ 190 rfl w.heap.size 193 i0 zeroRow 5 64 Tryz.underlying190 hi hz0 hz1 hz2 rfl (by decide) _ _ _ rfl hR1.2.1 ⟨g, 0, none⟩ 1 cap (rowsV part6) rfl (by rw [rowsV_len, part6_len]) HCS.out (rowsV_one _) (by decide) (by decide) hR1.2.2.size ?_)
  intro v2 w2 o2 g2 _
  have hR := Lib.hid (relA_app (N := 11) hR1 part6_len rfl o2 g2)
  clear o2 g2 hR1 HCS
  go_wp2_with fail
  refine (rows_new 16 4 ⟨#[]⟩ ⟨#[]⟩ [⟨#[99, 97, 108, 108]⟩] _ rfl _ 1 (by decide) (by decide) (by decide)).mono ?_
  rintro e w1 ⟨v, rfl, ho, hb⟩
  change w1.ownsRow _ 193 5 v part7.length (rowsV part7) at ho
  have hR1 := relA_call hR.out _ hb
  rw [part7_len] at ho
  obtain ⟨g, cap, rfl, hcs⟩ := row_slice ho (by decide)
  have HCS := Lib.hid hcs
  clear ho hb hcs hR
  go_wp2_with (at_builtin; refine wpList_append_own _ rfl _ _ 190 rfl w.heap.size 193 i0 zeroRow 5 64 Tryz.underlying190 hi hz0 hz1 hz2 rfl (by decide) _ _ _ rfl hR1.2.1 ⟨g, 0, none⟩ 1 cap (rowsV part7) rfl (by rw [rowsV_len, part7_len]) HCS.out (rowsV_one _) (by decide) (by decide) hR1.2.2.size ?_)
  intro v2 w2 o2 g2 _
  have hR := Lib.hid (relA_app (N := 12) hR1 part7_len rfl o2 g2)
  clear o2 g2 hR1 HCS
  go_wp2_with fail
  refine (rows_new 26 0 ⟨#[]⟩ ⟨#[]⟩ [⟨#[100, 114, 111, 112]⟩, ⟨#[115, 101, 108, 101, 99, 116]⟩] _ rfl _ 2 (by decide) (by decide) (by decide)).mono ?_
  rintro e w1 ⟨v, rfl, ho, hb⟩
  change w1.ownsRow _ 193 5 v part8.length (rowsV part8) at ho
  have hR1 := relA_call hR.out _ hb
  rw [part8_len] at ho
  obtain ⟨g, cap, rfl, hcs⟩ := row_slice ho (by decide)
  have HCS := Lib.hid hcs
  clear ho hb hcs hR
  go_wp2_with (at_builtin; refine wpList_append_own _ rfl _ _ 190 rfl w.heap.size 193 i0 zeroRow 5 64 Tryz.underlying190 hi hz0 hz1 hz2 rfl (by decide) _ _ _ rfl hR1.2.1 ⟨g, 0, none⟩ 2 cap (rowsV part8) rfl (by rw [rowsV_len, part8_len]) HCS.out (rowsV_one _) (by decide) (by decide) hR1.2.2.size ?_)
  intro v2 w2 o2 g2 _
  have hR := Lib.hid (relA_app (N := 14) hR1 part8_len rfl o2 g2)
  clear o2 g2 hR1 HCS
  go_wp2_with fail
  refine (rows_new 32 4 ⟨#[]⟩ ⟨#[]⟩ [⟨#[108, 111, 99, 97, 108, 46, 103, 101, 116]⟩, ⟨#[108, 111, 99, 97, 108, 46, 115, 101, 116]⟩, ⟨#[108, 111, 99, 97, 108, 46, 116, 101, 101]⟩, ⟨#[103, 108, 111, 98, 97, 108, 46, 103, 101, 116]⟩, ⟨#[103, 108, 111, 98, 97, 108, 46, 115, 101, 116]⟩] _ rfl _ 5 (by decide) (by decide) (by decide)).mono ?_
  rintro e w1 ⟨v, rfl, ho, hb⟩
  change w1.ownsRow _ 193 5 v part9.length (rowsV part9) at ho
  have hR1 := relA_call hR.out _ hb
  rw [part9_len] at ho
  obtain ⟨g, cap, rfl, hcs⟩ := row_slice ho (by decide)
  have HCS := Lib.hid hcs
  clear ho hb hcs hR
  go_wp2_with (at_builtin; refine wpList_append_own _ rfl _ _ 190 rfl w.heap.size 193 i0 zeroRow 5 64 Tryz.underlying190 hi hz0 hz1 hz2 rfl (by decide) _ _ _ rfl hR1.2.1 ⟨g, 0, none⟩ 5 cap (rowsV part9) rfl (by rw [rowsV_len, part9_len]) HCS.out (rowsV_one _) (by decide) (by decide) hR1.2.2.size ?_)
  intro v2 w2 o2 g2 _
  have hR := Lib.hid (relA_app (N := 19) hR1 part9_len rfl o2 g2)
  clear o2 g2 hR1 HCS
  go_wp2_with fail
  refine (rows_new 40 5 ⟨#[127]⟩ ⟨#[127]⟩ [⟨#[105, 51, 50, 46, 108, 111, 97, 100]⟩] _ rfl _ 1 (by decide) (by decide) (by decide)).mono ?_
  rintro e w1 ⟨v, rfl, ho, hb⟩
  change w1.ownsRow _ 193 5 v part10.length (rowsV part10) at ho
  have hR1 := relA_call hR.out _ hb
  rw [part10_len] at ho
  obtain ⟨g, cap, rfl, hcs⟩ := row_slice ho (by decide)
  have HCS := Lib.hid hcs
  clear ho hb hcs hR
  go_wp2_with (at_builtin; refine wpList_append_own _ rfl _ _ 190 rfl w.heap.size 193 i0 zeroRow 5 64 Tryz.underlying190 hi hz0 hz1 hz2 rfl (by decide) _ _ _ rfl hR1.2.1 ⟨g, 0, none⟩ 1 cap (rowsV part10) rfl (by rw [rowsV_len, part10_len]) HCS.out (rowsV_one _) (by decide) (by decide) hR1.2.2.size ?_)
  intro v2 w2 o2 g2 _
  have hR := Lib.hid (relA_app (N := 20) hR1 part10_len rfl o2 g2)
  clear o2 g2 hR1 HCS
  go_wp2_with fail
  refine (rows_new 41 5 ⟨#[127]⟩ ⟨#[126]⟩ [⟨#[105, 54, 52, 46, 108, 111, 97, 100]⟩] _ rfl _ 1 (by decide) (by decide) (by decide)).mono ?_
  rintro e w1 ⟨v, rfl, ho, hb⟩
  change w1.ownsRow _ 193 5 v part11.length (rowsV part11) at ho
  have hR1 := relA_call hR.out _ hb
  rw [part11_len] at ho
  obtain ⟨g, cap, rfl, hcs⟩ := row_slice ho (by decide)
  have HCS := Lib.hid hcs
  clear ho hb hcs hR
  go_wp2_with (at_builtin; refine wpList_append_own _ rfl _ _ 190 rfl w.heap.size 193 i0 zeroRow 5 64 Tryz.underlying190 hi hz0 hz1 hz2 rfl (by decide) _ _ _ rfl hR1.2.1 ⟨g, 0, none⟩ 1 cap (rowsV part11) rfl (by rw [rowsV_len, part11_len]) HCS.out (rowsV_one _) (by decide) (by decide) hR1.2.2.size ?_)
  intro v2 w2 o2 g2 _
  have hR := Lib.hid (relA_app (N := 21) hR1 part11_len rfl o2 g2)
  clear o2 g2 hR1 HCS
  go_wp2_with fail
  refine (rows_new 44 5 ⟨#[127]⟩ ⟨#[127]⟩ [⟨#[105, 51, 50, 46, 108, 111, 97, 100, 56, 95, 115]⟩, ⟨#[105, 51, 50, 46, 108, 111, 97, 100, 56, 95, 117]⟩, ⟨#[105, 51, 50, 46, 108, 111, 97, 100, 49, 54, 95, 115]⟩, ⟨#[105, 51, 50, 46, 108, 111, 97, 100, 49, 54, 95, 117]⟩] _ rfl _ 4 (by decide) (by decide) (by decide)).mono ?_
  rintro e w1 ⟨v, rfl, ho, hb⟩
  change w1.ownsRow _ 193 5 v part12.length (rowsV part12) at ho
  have hR1 := relA_call hR.out _ hb
  rw [part12_len] at ho
  obtain ⟨g, cap, rfl, hcs⟩ := row_slice ho (by decide)
  have HCS := Lib.hid hcs
  clear ho hb hcs hR
  go_wp2_with (at_builtin; refine wpList_append_own _ rfl _ _ 190 rfl w.heap.size 193 i0 zeroRow 5 64 Tryz.underlying190 hi hz0 hz1 hz2 rfl (by decide) _ _ _ rfl hR1.2.1 ⟨g, 0, none⟩ 4 cap (rowsV part12) rfl (by rw [rowsV_len, part12_len]) HCS.out (rowsV_one _) (by decide) (by decide) hR1.2.2.size ?_)
  intro v2 w2 o2 g2 _
  have hR := Lib.hid (relA_app (N := 25) hR1 part12_len rfl o2 g2)
  clear o2 g2 hR1 HCS
  go_wp2_with fail
  refine (rows_new 48 5 ⟨#[127]⟩ ⟨#[126]⟩ [⟨#[105, 54, 52, 46, 108, 111, 97, 100, 56, 95, 115]⟩, ⟨#[105, 54, 52, 46, 108, 111, 97, 100, 56, 95, 117]⟩, ⟨#[105, 54, 52, 46, 108, 111, 97, 100, 49, 54, 95, 115]⟩, ⟨#[105, 54, 52, 46, 108, 111, 97, 100, 49, 54, 95, 117]⟩, ⟨#[105, 54, 52, 46, 108, 111, 97, 100, 51, 50, 95, 115]⟩, ⟨#[105, 54, 52, 46, 108, 111, 97, 100, 51, 50, 95, 117]⟩] _ rfl _ 6 (by decide) (by decide) (by decide)).mono ?_
  rintro e w1 ⟨v, rfl, ho, hb⟩
  change w1.ownsRow _ 193 5 v part13.length (rowsV part13) at ho
  have hR1 := relA_call hR.out _ hb
  rw [part13_len] at ho
  obtain ⟨g, cap, rfl, hcs⟩ := row_slice ho (by decide)
  have HCS := Lib.hid hcs
  clear ho hb hcs hR
  go_wp2_with (at_builtin; refine wpList_append_own _ rfl _ _ 190 rfl w.heap.size 193 i0 zeroRow 5 64 Tryz.underlying190 hi hz0 hz1 hz2 rfl (by decide) _ _ _ rfl hR1.2.1 ⟨g, 0, none⟩ 6 cap (rowsV part13) rfl (by rw [rowsV_len, part13_len]) HCS.out (rowsV_one _) (by decide) (by decide) hR1.2.2.size ?_)
  intro v2 w2 o2 g2 _
  have hR := Lib.hid (relA_app (N := 31) hR1 part13_len rfl o2 g2)
  clear o2 g2 hR1 HCS
  go_wp2_with fail
  refine (rows_new 54 5 ⟨#[127, 127]⟩ ⟨#[]⟩ [⟨#[105, 51, 50, 46, 115, 116, 111, 114, 101]⟩] _ rfl _ 1 (by decide) (by decide) (by decide)).mono ?_
  rintro e w1 ⟨v, rfl, ho, hb⟩
  change w1.ownsRow _ 193 5 v part14.length (rowsV part14) at ho
  have hR1 := relA_call hR.out _ hb
  rw [part14_len] at ho
  obtain ⟨g, cap, rfl, hcs⟩ := row_slice ho (by decide)
  have HCS := Lib.hid hcs
  clear ho hb hcs hR
  go_wp2_with (at_builtin; refine wpList_append_own _ rfl _ _ 190 rfl w.heap.size 193 i0 zeroRow 5 64 Tryz.underlying190 hi hz0 hz1 hz2 rfl (by decide) _ _ _ rfl hR1.2.1 ⟨g, 0, none⟩ 1 cap (rowsV part14) rfl (by rw [rowsV_len, part14_len]) HCS.out (rowsV_one _) (by decide) (by decide) hR1.2.2.size ?_)
  intro v2 w2 o2 g2 _
  have hR := Lib.hid (relA_app (N := 32) hR1 part14_len rfl o2 g2)
  clear o2 g2 hR1 HCS
  go_wp2_with fail
  refine (rows_new 55 5 ⟨#[127, 126]⟩ ⟨#[]⟩ [⟨#[105, 54, 52, 46, 115, 116, 111, 114, 101]⟩] _ rfl _ 1 (by decide) (by decide) (by decide)).mono ?_
  rintro e w1 ⟨v, rfl, ho, hb⟩
  change w1.ownsRow _ 193 5 v part15.length (rowsV part15) at ho
  have hR1 := relA_call hR.out _ hb
  rw [part15_len] at ho
  obtain ⟨g, cap, rfl, hcs⟩ := row_slice ho (by decide)
  have HCS := Lib.hid hcs
  clear ho hb hcs hR
  go_wp2_with (at_builtin; refine wpList_append_own _ rfl _ _ 190 rfl w.heap.size 193 i0 zeroRow 5 64 Tryz.underlying190 hi hz0 hz1 hz2 rfl (by decide) _ _ _ rfl hR1.2.1 ⟨g, 0, none⟩ 1 cap (rowsV part15) rfl (by rw [rowsV_len, part15_len]) HCS.out (rowsV_one _) (by decide) (by decide) hR1.2.2.size ?_)
  intro v2 w2 o2 g2 _
  have hR := Lib.hid (relA_app (N := 33) hR1 part15_len rfl o2 g2)
  clear o2 g2 hR1 HCS
  go_wp2_with fail
  refine (rows_new 58 5 ⟨#[127, 127]⟩ ⟨#[]⟩ [⟨#[105, 51, 50, 46, 115, 116, 111, 114, 101, 56]⟩, ⟨#[105, 51, 50, 46, 115, 116, 111, 114, 101, 49, 54]⟩] _ rfl _ 2 (by decide) (by decide) (by decide)).mono ?_
  rintro e w1 ⟨v, rfl, ho, hb⟩
  change w1.ownsRow _ 193 5 v part16.length (rowsV part16) at ho
  have hR1 := relA_call hR.out _ hb
  rw [part16_len] at ho
  obtain ⟨g, cap, rfl, hcs⟩ := row_slice ho (by decide)
  have HCS := Lib.hid hcs
  clear ho hb hcs hR
  go_wp2_with (at_builtin; refine wpList_append_own _ rfl _ _ 190 rfl w.heap.size 193 i0 zeroRow 5 64 Tryz.underlying190 hi hz0 hz1 hz2 rfl (by decide) _ _ _ rfl hR1.2.1 ⟨g, 0, none⟩ 2 cap (rowsV part16) rfl (by rw [rowsV_len, part16_len]) HCS.out (rowsV_one _) (by decide) (by decide) hR1.2.2.size ?_)
  intro v2 w2 o2 g2 _
  have hR := Lib.hid (relA_app (N := 35) hR1 part16_len rfl o2 g2)
  clear o2 g2 hR1 HCS
  go_wp2_with fail
  refine (rows_new 60 5 ⟨#[127, 126]⟩ ⟨#[]⟩ [⟨#[105, 54, 52, 46, 115, 116, 111, 114, 101, 56]⟩, ⟨#[105, 54, 52, 46, 115, 116, 111, 114, 101, 49, 54]⟩, ⟨#[105, 54, 52, 46, 115, 116, 111, 114, 101, 51, 50]⟩] _ rfl _ 3 (by decide) (by decide) (by decide)).mono ?_
  rintro e w1 ⟨v, rfl, ho, hb⟩
  change w1.ownsRow _ 193 5 v part17.length (rowsV part17) at ho
  have hR1 := relA_call hR.out _ hb
  rw [part17_len] at ho
  obtain ⟨g, cap, rfl, hcs⟩ := row_slice ho (by decide)
  have HCS := Lib.hid hcs
  clear ho hb hcs hR
  go_wp2_with (at_builtin; refine wpList_append_own _ rfl _ _ 190 rfl w.heap.size 193 i0 zeroRow 5 64 Tryz.underlying190 hi hz0 hz1 hz2 rfl (by decide) _ _ _ rfl hR1.2.1 ⟨g, 0, none⟩ 3 cap (rowsV part17) rfl (by rw [rowsV_len, part17_len]) HCS.out (rowsV_one _) (by decide) (by decide) hR1.2.2.size ?_)
  intro v2 w2 o2 g2 _
  have hR := Lib.hid (relA_app (N := 38) hR1 part17_len rfl o2 g2)
  clear o2 g2 hR1 HCS
  go_wp2_with fail
  refine (rows_new 63 6 ⟨#[]⟩ ⟨#[127]⟩ [⟨#[109, 101, 109, 111, 114, 121, 46, 115, 105, 122, 101]⟩] _ rfl _ 1 (by decide) (by decide) (by decide)).mono ?_
  rintro e w1 ⟨v, rfl, ho, hb⟩
  change w1.ownsRow _ 193 5 v part18.length (rowsV part18) at ho
  have hR1 := relA_call hR.out _ hb
  rw [part18_len] at ho
  obtain ⟨g, cap, rfl, hcs⟩ := row_slice ho (by decide)
  have HCS := Lib.hid hcs
  clear ho hb hcs hR
  go_wp2_with (at_builtin; refine wpList_append_own _ rfl _ _ 190 rfl w.heap.size 193 i0 zeroRow 5 64 Tryz.underlying190 hi hz0 hz1 hz2 rfl (by decide) _ _ _ rfl hR1.2.1 ⟨g, 0, none⟩ 1 cap (rowsV part18) rfl (by rw [rowsV_len, part18_len]) HCS.out (rowsV_one _) (by decide) (by decide) hR1.2.2.size ?_)
  intro v2 w2 o2 g2 _
  have hR := Lib.hid (relA_app (N := 39) hR1 part18_len rfl o2 g2)
  clear o2 g2 hR1 HCS
  go_wp2_with fail
  refine (rows_new 64 6 ⟨#[127]⟩ ⟨#[127]⟩ [⟨#[109, 101, 109, 111, 114, 121, 46, 103, 114, 111, 119]⟩] _ rfl _ 1 (by decide) (by decide) (by decide)).mono ?_
  rintro e w1 ⟨v, rfl, ho, hb⟩
  change w1.ownsRow _ 193 5 v part19.length (rowsV part19) at ho
  have hR1 := relA_call hR.out _ hb
  rw [part19_len] at ho
  obtain ⟨g, cap, rfl, hcs⟩ := row_slice ho (by decide)
  have HCS := Lib.hid hcs
  clear ho hb hcs hR
  go_wp2_with (at_builtin; refine wpList_append_own _ rfl _ _ 190 rfl w.heap.size 193 i0 zeroRow 5 64 Tryz.underlying190 hi hz0 hz1 hz2 rfl (by decide) _ _ _ rfl hR1.2.1 ⟨g, 0, none⟩ 1 cap (rowsV part19) rfl (by rw [rowsV_len, part19_len]) HCS.out (rowsV_one _) (by decide) (by decide) hR1.2.2.size ?_)
  intro v2 w2 o2 g2 _
  have hR := Lib.hid (relA_app (N := 40) hR1 part19_len rfl o2 g2)
  clear o2 g2 hR1 HCS
  go_wp2_with fail
  refine (rows_new 65 7 ⟨#[]⟩ ⟨#[127]⟩ [⟨#[105, 51, 50, 46, 99, 111, 110, 115, 116]⟩] _ rfl _ 1 (by decide) (by decide) (by decide)).mono ?_
  rintro e w1 ⟨v, rfl, ho, hb⟩
  change w1.ownsRow _ 193 5 v part20.length (rowsV part20) at ho
  have hR1 := relA_call hR.out _ hb
  rw [part20_len] at ho
  obtain ⟨g, cap, rfl, hcs⟩ := row_slice ho (by decide)
  have HCS := Lib.hid hcs
  clear ho hb hcs hR
  go_wp2_with (at_builtin; refine wpList_append_own _ rfl _ _ 190 rfl w.heap.size 193 i0 zeroRow 5 64 Tryz.underlying190 hi hz0 hz1 hz2 rfl (by decide) _ _ _ rfl hR1.2.1 ⟨g, 0, none⟩ 1 cap (rowsV part20) rfl (by rw [rowsV_len, part20_len]) HCS.out (rowsV_one _) (by decide) (by decide) hR1.2.2.size ?_)
  intro v2 w2 o2 g2 _
  have hR := Lib.hid (relA_app (N := 41) hR1 part20_len rfl o2 g2)
  clear o2 g2 hR1 HCS
  go_wp2_with fail
  refine (rows_new 66 7 ⟨#[]⟩ ⟨#[126]⟩ [⟨#[105, 54, 52, 46, 99, 111, 110, 115, 116]⟩] _ rfl _ 1 (by decide) (by decide) (by decide)).mono ?_
  rintro e w1 ⟨v, rfl, ho, hb⟩
  change w1.ownsRow _ 193 5 v part21.length (rowsV part21) at ho
  have hR1 := relA_call hR.out _ hb
  rw [part21_len] at ho
  obtain ⟨g, cap, rfl, hcs⟩ := row_slice ho (by decide)
  have HCS := Lib.hid hcs
  clear ho hb hcs hR
  go_wp2_with (at_builtin; refine wpList_append_own _ rfl _ _ 190 rfl w.heap.size 193 i0 zeroRow 5 64 Tryz.underlying190 hi hz0 hz1 hz2 rfl (by decide) _ _ _ rfl hR1.2.1 ⟨g, 0, none⟩ 1 cap (rowsV part21) rfl (by rw [rowsV_len, part21_len]) HCS.out (rowsV_one _) (by decide) (by decide) hR1.2.2.size ?_)
  intro v2 w2 o2 g2 _
  have hR := Lib.hid (relA_app (N := 42) hR1 part21_len rfl o2 g2)
  clear o2 g2 hR1 HCS
  go_wp2_with fail
  refine (rnumbers_t ⟨#[105, 51, 50, 46]⟩ ⟨#[127]⟩ 69 103 _ (by decide) (by decide) (by decide) (by decide) (by decide) (by decide)).mono ?_
  rintro e w1 ⟨v, rfl, ho, hb⟩
  change w1.ownsRow _ 193 5 v part22.length (rowsV part22) at ho
  have hR1 := relA_quiet hR.out hb
  rw [part22_len] at ho
  obtain ⟨g, cap, rfl, hcs⟩ := row_slice ho (by decide)
  have HCS := Lib.hid hcs
  clear ho hb hcs hR
  go_wp2_with (at_builtin; refine wpList_append_own _ rfl _ _ 190 rfl w.heap.size 193 i0 zeroRow 5 64 Tryz.underlying190 hi hz0 hz1 hz2 rfl (by decide) _ _ _ rfl hR1.2.1 ⟨g, 0, none⟩ 29 cap (rowsV part22) rfl (by rw [rowsV_len, part22_len]) HCS.out (rowsV_one _) (by decide) (by decide) hR1.2.2.size ?_)
  intro v2 w2 o2 g2 _
  have hR := Lib.hid (relA_app (N := 71) hR1 part22_len rfl o2 g2)
  clear o2 g2 hR1 HCS
  go_wp2_with fail
  refine (rnumbers_t ⟨#[105, 54, 52, 46]⟩ ⟨#[126]⟩ 80 121 _ (by decide) (by decide) (by decide) (by decide) (by decide) (by decide)).mono ?_
  rintro e w1 ⟨v, rfl, ho, hb⟩
  change w1.ownsRow _ 193 5 v part23.length (rowsV part23) at ho
  have hR1 := relA_quiet hR.out hb
  rw [part23_len] at ho
  obtain ⟨g, cap, rfl, hcs⟩ := row_slice ho (by decide)
  have HCS := Lib.hid hcs
  clear ho hb hcs hR
  go_wp2_with (at_builtin; refine wpList_append_own _ rfl _ _ 190 rfl w.heap.size 193 i0 zeroRow 5 64 Tryz.underlying190 hi hz0 hz1 hz2 rfl (by decide) _ _ _ rfl hR1.2.1 ⟨g, 0, none⟩ 29 cap (rowsV part23) rfl (by rw [rowsV_len, part23_len]) HCS.out (rowsV_one _) (by decide) (by decide) hR1.2.2.size ?_)
  intro v2 w2 o2 g2 _
  have hR := Lib.hid (relA_app (N := 100) hR1 part23_len rfl o2 g2)
  clear o2 g2 hR1 HCS
  go_wp2_with fail
  refine (rows_new 167 0 ⟨#[126]⟩ ⟨#[127]⟩ [⟨#[105, 51, 50, 46, 119, 114, 97, 112, 95, 105, 54, 52]⟩] _ rfl _ 1 (by decide) (by decide) (by decide)).mono ?_
  rintro e w1 ⟨v, rfl, ho, hb⟩
  change w1.ownsRow _ 193 5 v part24.length (rowsV part24) at ho
  have hR1 := relA_call hR.out _ hb
  rw [part24_len] at ho
  obtain ⟨g, cap, rfl, hcs⟩ := row_slice ho (by decide)
  have HCS := Lib.hid hcs
  clear ho hb hcs hR
  go_wp2_with (at_builtin; refine wpList_append_own _ rfl _ _ 190 rfl w.heap.size 193 i0 zeroRow 5 64 Tryz.underlying190 hi hz0 hz1 hz2 rfl (by decide) _ _ _ rfl hR1.2.1 ⟨g, 0, none⟩ 1 cap (rowsV part24) rfl (by rw [rowsV_len, part24_len]) HCS.out (rowsV_one _) (by decide) (by decide) hR1.2.2.size ?_)
  intro v2 w2 o2 g2 _
  have hR := Lib.hid (relA_app (N := 101) hR1 part24_len rfl o2 g2)
  clear o2 g2 hR1 HCS
  go_wp2_with fail
  refine (rows_new 172 0 ⟨#[127]⟩ ⟨#[126]⟩ [⟨#[105, 54, 52, 46, 101, 120, 116, 101, 110, 100, 95, 105, 51, 50, 95, 115]⟩, ⟨#[105, 54, 52, 46, 101, 120, 116, 101, 110, 100, 95, 105, 51, 50, 95, 117]⟩] _ rfl _ 2 (by decide) (by decide) (by decide)).mono ?_
  rintro e w1 ⟨v, rfl, ho, hb⟩
  change w1.ownsRow _ 193 5 v part25.length (rowsV part25) at ho
  have hR1 := relA_call hR.out _ hb
  rw [part25_len] at ho
  obtain ⟨g, cap, rfl, hcs⟩ := row_slice ho (by decide)
  have HCS := Lib.hid hcs
  clear ho hb hcs hR
  go_wp2_with (at_builtin; refine wpList_append_own _ rfl _ _ 190 rfl w.heap.size 193 i0 zeroRow 5 64 Tryz.underlying190 hi hz0 hz1 hz2 rfl (by decide) _ _ _ rfl hR1.2.1 ⟨g, 0, none⟩ 2 cap (rowsV part25) rfl (by rw [rowsV_len, part25_len]) HCS.out (rowsV_one _) (by decide) (by decide) hR1.2.2.size ?_)
  intro v2 w2 o2 g2 _
  have hR := Lib.hid (relA_app (N := 103) hR1 part25_len rfl o2 g2)
  clear o2 g2 hR1 HCS
  go_wp2_with fail
  go_ret
  obtain ⟨h1, h2, h3⟩ := hR.out
  refine ⟨_, rfl, ?_, h3⟩
  rw [show refL.length = 103 from h1]
  exact h2
end Go.Proofs.YteidhccnbfikcaaGreatDoor.Op

/- OpCodeP: A name's code, in the table. Plain. -/
namespace Go.Proofs.YteidhccnbfikcaaGreatDoor.Op
open Go.RowKit Go.Maps
set_option linter.unusedVariables false
theorem eqT {a b : ByteArray} (h : a.data.toList = b.data.toList) : (a.toList == b.toList) = true := by rw [ByteArray.toList_eq, ByteArray.toList_eq, h]; simp
theorem eqF {a b : ByteArray} (h : a.data.toList ≠ b.data.toList) : (a.toList == b.toList) = false := by rw [ByteArray.toList_eq, ByteArray.toList_eq]; simpa using h
def codeOf (nm : List UInt8) : Option Int := (tableL.find? fun e => e.2.name.data.toList == nm).map (·.1)
def apartB : List (Int × Info) → Bool
  | [] => true
  | e :: l => (l.all fun x => !(x.2.name.data.toList == e.2.name.data.toList)) && apartB l
theorem names_apart : apartB tableL = true := by kernel_rfl
theorem find_name (c : Int) (i : Info) (nm : List UInt8) (hn : i.name.data.toList = nm) : ∀ (l : List (Int × Info)), apartB l = true → (c, i) ∈ l → l.find? (fun e => e.2.name.data.toList == nm) = some (c, i)
  | [], _, h => by cases h
  | e :: l, ha, h => by
    simp only [apartB, Bool.and_eq_true, List.all_eq_true] at ha
    rw [List.find?_cons]
    rcases List.mem_cons.1 h with rfl | h
    · simp [hn]
    · have h1 := ha.1 (c, i) h
      have h2 : (e.2.name.data.toList == nm) = false := by
        rw [← hn]
        cases hb : (e.2.name.data.toList == i.name.data.toList)
        · rfl
        · have e2 := eq_of_beq hb
          simp [e2] at h1
      rw [h2]
      exact find_name c i nm hn l ha.2 h
theorem code_of {c : Int} {i : Info} {nm : List UInt8} (h : opInfo c = some i) (hn : i.name.data.toList = nm) : codeOf nm = some c := by
  unfold codeOf
  rw [find_name c i nm hn tableL names_apart (opInfo_mem h)]
  rfl
theorem code_none {nm : List UInt8} (h : ∀ c i, opInfo c = some i → i.name.data.toList ≠ nm) : codeOf nm = none := by
  unfold codeOf
  rw [Option.map_eq_none_iff, List.find?_eq_none]
  intro e he hb
  have h1 := opInfo_of_mem (c := e.1) (i := e.2) he codes_apart
  exact h e.1 e.2 h1 (by simpa using hb)
end Go.Proofs.YteidhccnbfikcaaGreatDoor.Op

/- OpRefD: The reference's rows of chapter 3 and the program's table say the same; a search through them. Plain: no program in sight. -/
namespace Go.Proofs.YteidhccnbfikcaaGreatDoor.Op
open Go.RowKit Go.Maps
set_option linter.unusedVariables false
def ins (e : Int × Info) : List (Int × Info) → List (Int × Info)
  | [] => [e]
  | x :: l => if e.1 ≤ x.1 then e :: x :: l else x :: ins e l
theorem ins_perm (e : Int × Info) : ∀ l, (ins e l).Perm (e :: l)
  | [] => .refl _
  | x :: l => by
    unfold ins
    split
    · exact .refl _
    · exact ((ins_perm e l).cons x).trans (.swap e x l)
def isort (l : List (Int × Info)) : List (Int × Info) := l.foldr ins []
theorem isort_perm : ∀ l, (isort l).Perm l
  | [] => .refl _
  | e :: l => (ins_perm e (isort l)).trans ((isort_perm l).cons e)
theorem isort_ref : isort refL = tableL := by kernel_rfl
theorem ref_perm : refL.Perm tableL := by
  have h := isort_perm refL
  rw [isort_ref] at h
  exact h.symm
theorem ref_codes : refL.Pairwise (fun a b => a.1 ≠ b.1) :=
  (ref_perm.pairwise_iff (fun h => Ne.symm h)).2 (codes_apart.imp (fun h => Int.ne_of_lt h))
theorem apart_pair : ∀ (l : List (Int × Info)), apartB l = true → l.Pairwise (fun a b => a.2.name.data.toList ≠ b.2.name.data.toList)
  | [], _ => .nil
  | e :: l, h => by
    simp only [apartB, Bool.and_eq_true, List.all_eq_true] at h
    refine List.pairwise_cons.2 ⟨fun x hx he => ?_, apart_pair l h.2⟩
    have h1 := h.1 x hx
    rw [he] at h1
    simp at h1
theorem ref_names : refL.Pairwise (fun a b => a.2.name.data.toList ≠ b.2.name.data.toList) :=
  (ref_perm.pairwise_iff (fun h => Ne.symm h)).2 (apart_pair tableL names_apart)
theorem find_key {κ : Type} [BEq κ] [LawfulBEq κ] (f : Int × Info → κ) (e : Int × Info) : ∀ l : List (Int × Info), l.Pairwise (fun a b => f a ≠ f b) → e ∈ l → l.find? (fun x => f x == f e) = some e
  | [], _, h => by cases h
  | x :: l, hp, h => by
    rw [List.find?_cons]
    rcases List.mem_cons.1 h with rfl | h
    · simp
    · have h1 := List.rel_of_pairwise_cons hp h
      rw [beq_eq_false_iff_ne.2 h1]
      exact find_key f e l (List.Pairwise.of_cons hp) h
theorem ref_find (c : Int) : (refL.find? fun e => e.1 == c).map (·.2) = opInfo c := by
  cases h : opInfo c with
  | some i =>
    have h1 := find_key (fun e => e.1) (c, i) refL ref_codes (ref_perm.mem_iff.2 (opInfo_mem h))
    rw [show (refL.find? fun e => e.1 == c) = some (c, i) from h1]
    rfl
  | none =>
    rw [Option.map_eq_none_iff, List.find?_eq_none]
    intro e he hb
    have h1 := opInfo_of_mem (c := e.1) (i := e.2) (ref_perm.mem_iff.1 he) codes_apart
    rw [show e.1 = c by simpa using hb, h] at h1
    cases h1
theorem ref_find_name (nm : List UInt8) : (refL.find? fun e => e.2.name.data.toList == nm).map (·.1) = codeOf nm := by
  cases h : (tableL.find? fun e => e.2.name.data.toList == nm) with
  | some e =>
    have h2 := List.find?_some h
    have h3 : e.2.name.data.toList = nm := by simpa using h2
    subst h3
    have h1 := find_key (fun e => e.2.name.data.toList) e refL ref_names (ref_perm.mem_iff.2 (List.mem_of_find?_eq_some h))
    unfold codeOf
    rw [h, show (refL.find? fun x => x.2.name.data.toList == e.2.name.data.toList) = some e from h1]
  | none =>
    unfold codeOf
    rw [h]
    have : (refL.find? fun e => e.2.name.data.toList == nm) = none := by
      rw [List.find?_eq_none] at h ⊢
      intro e he
      exact h e (ref_perm.mem_iff.1 he)
    rw [this]
theorem find_at (p : Int × Info → Bool) (e : Int × Info) : ∀ (l : List (Int × Info)) (k : Nat), l[k]? = some e → (∀ j x, j < k → l[j]? = some x → p x = false) → p e = true → l.find? p = some e
  | [], k, h, _, _ => by simp at h
  | a :: l, 0, h, _, hp => by
    simp at h
    subst h
    rw [List.find?_cons, hp]
  | a :: l, k + 1, h, hn, hp => by
    rw [List.find?_cons, hn 0 a (by omega) rfl]
    exact find_at p e l k (by simpa using h) (fun j x hj hx => hn (j + 1) x (by omega) (by simpa using hx)) hp
theorem find_not (p : Int × Info → Bool) (l : List (Int × Info)) (h : ∀ j x, j < l.length → l[j]? = some x → p x = false) : l.find? p = none := by
  rw [List.find?_eq_none]
  intro x hx hp
  obtain ⟨j, hj, rfl⟩ := List.getElem_of_mem hx
  rw [h j _ hj (List.getElem?_eq_getElem hj)] at hp
  cases hp
theorem rowsV_get : ∀ (l : List (Int × Info)) (k j : Nat) (e : Int × Info), l[k]? = some e → j < 5 → (rowsV l)[5 * k + j]? = (rowV e)[j]?
  | [], k, j, e, h, _ => by simp at h
  | a :: l, 0, j, e, h, hj => by
    simp at h
    subst h
    rw [show rowsV (a :: l) = rowV a ++ rowsV l from List.flatMap_cons, List.getElem?_append_left (by simp [rowV]; omega)]
    simp
  | a :: l, k + 1, j, e, h, hj => by
    rw [show rowsV (a :: l) = rowV a ++ rowsV l from List.flatMap_cons, List.getElem?_append_right (by simp [rowV]; omega), ← rowsV_get l k j e (by simpa using h) hj]
    simp [rowV]
    rw [show 5 * (k + 1) + j - 5 = 5 * k + j by omega]
end Go.Proofs.YteidhccnbfikcaaGreatDoor.Op

/- OpRefE: What the reference's Of and Code of chapter 3 answer. No condition beyond what each theorem names. -/
namespace Go.Proofs.YteidhccnbfikcaaGreatDoor.Op
open Go.RowKit Go.Maps
set_option linter.unusedVariables false
def RelFi (c : Int) (i : Value) : Prop := ∃ k : Nat, k ≤ 103 ∧ i = .int .i64 k ∧ ∀ j x, j < k → refL[j]? = some x → (x.1 == c) = false
theorem ref_len : refL.length = 103 := by kernel_rfl
theorem ref_cells {w : World} {g : Nat} (hcs : ∀ j u, (rowsV refL)[j]? = some u → w.cell? ((⟨g, 0, none⟩ : Addr).add j) = some u) {k : Nat} {e : Int × Info} (he : refL[k]? = some e) (j : Nat) (hj : j < 5) (u : Value) (hu : (rowV e)[j]? = some u) : w.cell? ⟨g, k * 5 + j, none⟩ = some u := by
  have h := hcs (5 * k + j) u (by rw [rowsV_get refL k j e he hj]; exact hu)
  rw [Addr.add_lit, Nat.zero_add] at h
  rw [Nat.mul_comm]
  exact h
set_option maxRecDepth 100000 in
set_option maxHeartbeats 1000000 in
theorem rof_any (c : Int) (w : World) (nm p r : ByteArray) (sh : Int) (b : Bool) (hi : (opInfo c).getD zeroI = ⟨nm, sh, p, r⟩) (hb : (opInfo c).isSome = b) :
    Calls Tryz.prog 66 #[.int .i64 c] w fun e w' => e = .returned (.tuple #[.agg #[.string nm, .int .i64 sh, .string p, .string r], .bool b]) ∧ Below w.heap.size w w' := by
  have HI := Lib.hid hi
  have HB := Lib.hid hb
  clear hi hb
  have B0 : Below w.heap.size w (w.alloc (.cells #[.string ⟨#[]⟩, .int .i64 0, .string ⟨#[]⟩, .string ⟨#[]⟩] 121)) := (Below.refl _ _).alloc (Nat.le_refl _) _
  go_enter Tryz.func66, Tryz.ntmps66
  go_wp2_with fail
  refine (rall_any _).mono ?_
  rintro e w1 ⟨v, rfl, ho, hb⟩
  have B1 := B0.trans (hb.mono B0.size)
  rw [ref_len] at ho
  obtain ⟨g, cap, rfl, hcs⟩ := row_slice ho (by decide)
  have HCS := Lib.hid hcs
  have r0 : w1.cell? ⟨w.heap.size, 0, none⟩ = some (.string ⟨#[]⟩) := cell_later hb (by simp)
  have r1 : w1.cell? ⟨w.heap.size, 1, none⟩ = some (.int .i64 0) := cell_later hb (by simp)
  have r2 : w1.cell? ⟨w.heap.size, 2, none⟩ = some (.string ⟨#[]⟩) := cell_later hb (by simp)
  have r3 : w1.cell? ⟨w.heap.size, 3, none⟩ = some (.string ⟨#[]⟩) := cell_later hb (by simp)
  have fz : ∀ j, w1.frozen? ⟨w.heap.size, j, none⟩ = false := fun j => (hb.frozen (by simp)).trans (World.frozen?_alloc_at _ _ _ _ rfl)
  clear ho hcs hb B0
  go_wp2_with fail
  go_loop [5] (fun i => RelFi c i) (fun i => 103 - (intOf i).toNat)
  case atStart => exact ⟨0, Nat.zero_le _, rfl, fun j x hj => by omega⟩
  case round =>
    obtain ⟨k, hk, rfl, hpre⟩ := hrel
    have HP := Lib.hid hpre
    clear hpre
    by_cases hlt : k < 103
    · obtain ⟨⟨cd, inm, ish, ipa, ire⟩, he⟩ : ∃ e, refL[k]? = some e := ⟨_, List.getElem?_eq_getElem (show k < refL.length by rw [ref_len]; exact hlt)⟩
      have c0 : w1.cell? ⟨g, k * 5, none⟩ = some (.int .i64 cd) := ref_cells HCS.out he 0 (by decide) _ rfl
      have c1 : w1.cell? ⟨g, k * 5 + 1, none⟩ = some (.string inm) := ref_cells HCS.out he 1 (by decide) _ rfl
      have c2 : w1.cell? ⟨g, k * 5 + 2, none⟩ = some (.int .i64 ish) := ref_cells HCS.out he 2 (by decide) _ rfl
      have c3 : w1.cell? ⟨g, k * 5 + 3, none⟩ = some (.string ipa) := ref_cells HCS.out he 3 (by decide) _ rfl
      have c4 : w1.cell? ⟨g, k * 5 + 4, none⟩ = some (.string ire) := ref_cells HCS.out he 4 (by decide) _ rfl
      have hd : decide ((k : Int) < 103) = true := decide_eq_true (by omega)
      have HE := Lib.hid he
      clear he
      cases hq : (cd == c)
      · have HQ := Lib.hid hq
        go_wp2_with fail
        go_round
        case rel => exact ⟨k + 1, by omega, by go_num, fun j x hj hx => by rcases (show j < k ∨ j = k by omega) with h9 | rfl; exact HP.out j x h9 hx; rw [HE.out] at hx; cases hx; exact HQ.out⟩
        case measure => simp [intOf]; omega
      · have hf := find_at (fun e => e.1 == c) _ refL k HE.out HP.out hq
        have h1 : opInfo c = some ⟨inm, ish, ipa, ire⟩ := by rw [← ref_find, hf]; rfl
        have h2 := HI.out
        have h3 := HB.out
        rw [h1] at h2 h3
        obtain ⟨rfl, rfl, rfl, rfl⟩ : inm = nm ∧ ish = sh ∧ ipa = p ∧ ire = r := by
          have h4 : (⟨inm, ish, ipa, ire⟩ : Info) = ⟨nm, sh, p, r⟩ := h2
          cases h4
          exact ⟨rfl, rfl, rfl, rfl⟩
        obtain rfl : b = true := h3.symm
        clear h1 h2 h3 hf
        go_wp2_with fail
        (try simp only [Exit.inBlock, Exit.then])
        refine bodyPost_ret (v := .tuple #[.agg #[.string inm, .int .i64 ish, .string ipa, .string ire], .bool true]) (by simp [results, Tryz.results66, go_sem, r0, r1, r2, r3]) rfl ?_
        exact ⟨rfl, (((B1.setCell (Nat.le_refl _) _).setCell (Nat.le_refl _) _).setCell (Nat.le_refl _) _).setCell (Nat.le_refl _) _⟩
    · obtain rfl : k = 103 := by omega
      have hno := find_not (fun e => e.1 == c) refL (fun j x hj hx => HP.out j x (by rw [ref_len] at hj; exact hj) hx)
      have h1 : opInfo c = none := by rw [← ref_find, hno]; rfl
      have h2 := HI.out
      have h3 := HB.out
      rw [h1] at h2 h3
      obtain ⟨rfl, rfl, rfl, rfl⟩ : nm = ⟨#[]⟩ ∧ sh = 0 ∧ p = ⟨#[]⟩ ∧ r = ⟨#[]⟩ := by
        have h4 : zeroI = ⟨nm, sh, p, r⟩ := h2
        cases h4
        exact ⟨rfl, rfl, rfl, rfl⟩
      obtain rfl : b = false := h3.symm
      clear h1 h2 h3 hno
      have hd : decide (((103 : Nat) : Int) < 103) = false := by decide
      go_wp2_with fail
      (try simp only [Exit.inBlock, Exit.then])
      refine bodyPost_ret (v := .tuple #[.agg #[.string ⟨#[]⟩, .int .i64 0, .string ⟨#[]⟩, .string ⟨#[]⟩], .bool false]) (by simp [results, Tryz.results66, go_sem, r0, r1, r2, r3]) rfl ?_
      exact ⟨rfl, (((B1.setCell (Nat.le_refl _) _).setCell (Nat.le_refl _) _).setCell (Nat.le_refl _) _).setCell (Nat.le_refl _) _⟩
def RelGi (nm : List UInt8) (i : Value) : Prop := ∃ k : Nat, k ≤ 103 ∧ i = .int .i64 k ∧ ∀ j x, j < k → refL[j]? = some x → (x.2.name.data.toList == nm) = false
end Go.Proofs.YteidhccnbfikcaaGreatDoor.Op

/- OpRefF: What the reference's Float, word and Right of chapter 3 answer. No condition beyond what each theorem names. -/
namespace Go.Proofs.YteidhccnbfikcaaGreatDoor.Op
open Go.RowKit Go.Maps
set_option linter.unusedVariables false
theorem rword_any (n : Int) (w : World) (b : Bool) (hb : wordB n = b) :
    Calls Tryz.prog 131 #[.int .i64 n] w fun e w' => e = .returned (.bool b) ∧ w = w' := by
  have HB := Lib.hid hb
  clear hb
  go_enter Tryz.func131, Tryz.ntmps131
  go_wp2_with fail
  all_goals
    go_ret
    refine ⟨?_, rfl⟩
    refine congrArg (fun b => Ending.returned (.bool b)) ?_
    rw [← HB.out, Bool.eq_iff_iff]
    unfold wordB
    simp
    try omega
set_option maxRecDepth 100000 in
set_option maxHeartbeats 2000000 in
theorem rright_none (op A : Int) (B : Int) (lv : Value) (w : World)  (hi : opInfo op = none) :
    Calls Tryz.prog 65 #[.agg #[.int .i64 op, .int .i64 A, .int .i64 B, lv]] w fun e w' => e = .returned (.bool (false)) ∧ Below w.heap.size w w' := by
  have B0 : Below w.heap.size w (w.alloc (.cells #[.int .i64 op, .int .i64 A, .int .i64 B, lv] 33)) := (Below.refl _ _).alloc (Nat.le_refl _) _
  have HI := Lib.hid hi
  clear hi
  go_enter Tryz.func65, Tryz.ntmps65
  go_wp2_with fail
  refine (rof_any op _ ⟨#[]⟩ ⟨#[]⟩ ⟨#[]⟩ 0 false (by rw [HI.out]; rfl) (by rw [HI.out]; rfl)).mono ?_
  rintro e w1 ⟨rfl, c1⟩
  have B1 := B0.trans (c1.mono B0.size)
  have s0 : w.heap.size < w1.heap.size := by have := c1.size; simp at this; omega
  have r0 : w1.cell? ⟨w.heap.size, 0, none⟩ = some (.int .i64 op) := cell_later c1 (by simp)
  have r1 : w1.cell? ⟨w.heap.size, 1, none⟩ = some (.int .i64 A) := cell_later c1 (by simp)
  have r2 : w1.cell? ⟨w.heap.size, 2, none⟩ = some (.int .i64 B) := cell_later c1 (by simp)
  have r3 : w1.cell? ⟨w.heap.size, 3, none⟩ = some (lv) := cell_later c1 (by simp)
  clear c1 B0
  go_wp2_with fail
  go_ret
  exact ⟨rfl, B1.alloc (by omega) _⟩
set_option maxRecDepth 100000 in
set_option maxHeartbeats 2000000 in
theorem rright_b (op A : Int) (B : Int) (lv : Value) (nm p r : ByteArray) (sh : Int) (w : World) (h1 : (B == 0) = false) (h2 : (sh == 5) = false) (h3 : (B != 0) = true) (h4 : (sh != 5) = true) (hi : opInfo op = some ⟨nm, sh, p, r⟩) :
    Calls Tryz.prog 65 #[.agg #[.int .i64 op, .int .i64 A, .int .i64 B, lv]] w fun e w' => e = .returned (.bool (false)) ∧ Below w.heap.size w w' := by
  have B0 : Below w.heap.size w (w.alloc (.cells #[.int .i64 op, .int .i64 A, .int .i64 B, lv] 33)) := (Below.refl _ _).alloc (Nat.le_refl _) _
  have HI := Lib.hid hi
  clear hi
  go_enter Tryz.func65, Tryz.ntmps65
  go_wp2_with fail
  refine (rof_any op _ nm p r sh true (by rw [HI.out]; rfl) (by rw [HI.out]; rfl)).mono ?_
  rintro e w1 ⟨rfl, c1⟩
  have B1 := B0.trans (c1.mono B0.size)
  have s0 : w.heap.size < w1.heap.size := by have := c1.size; simp at this; omega
  have r0 : w1.cell? ⟨w.heap.size, 0, none⟩ = some (.int .i64 op) := cell_later c1 (by simp)
  have r1 : w1.cell? ⟨w.heap.size, 1, none⟩ = some (.int .i64 A) := cell_later c1 (by simp)
  have r2 : w1.cell? ⟨w.heap.size, 2, none⟩ = some (.int .i64 B) := cell_later c1 (by simp)
  have r3 : w1.cell? ⟨w.heap.size, 3, none⟩ = some (lv) := cell_later c1 (by simp)
  clear c1 B0
  go_wp2_with fail
  go_ret
  exact ⟨rfl, B1.alloc (by omega) _⟩
set_option maxRecDepth 100000 in
set_option maxHeartbeats 2000000 in
theorem rright_l0 (op A : Int) (nm p r : ByteArray) (sh : Int) (lb lo len cp : Nat) (w : World) (h2 : (sh == 3) = false) (h4 : (sh != 3) = true) (h5 : 0 < len) (hi : opInfo op = some ⟨nm, sh, p, r⟩) :
    Calls Tryz.prog 65 #[.agg #[.int .i64 op, .int .i64 A, .int .i64 0, .slice (some ⟨lb, lo, none⟩) len cp]] w fun e w' => e = .returned (.bool (false)) ∧ Below w.heap.size w w' := by
  have B0 : Below w.heap.size w (w.alloc (.cells #[.int .i64 op, .int .i64 A, .int .i64 0, .slice (some ⟨lb, lo, none⟩) len cp] 33)) := (Below.refl _ _).alloc (Nat.le_refl _) _
  have HI := Lib.hid hi
  clear hi
  go_enter Tryz.func65, Tryz.ntmps65
  go_wp2_with fail
  refine (rof_any op _ nm p r sh true (by rw [HI.out]; rfl) (by rw [HI.out]; rfl)).mono ?_
  rintro e w1 ⟨rfl, c1⟩
  have B1 := B0.trans (c1.mono B0.size)
  have s0 : w.heap.size < w1.heap.size := by have := c1.size; simp at this; omega
  have r0 : w1.cell? ⟨w.heap.size, 0, none⟩ = some (.int .i64 op) := cell_later c1 (by simp)
  have r1 : w1.cell? ⟨w.heap.size, 1, none⟩ = some (.int .i64 A) := cell_later c1 (by simp)
  have r2 : w1.cell? ⟨w.heap.size, 2, none⟩ = some (.int .i64 0) := cell_later c1 (by simp)
  have r3 : w1.cell? ⟨w.heap.size, 3, none⟩ = some (.slice (some ⟨lb, lo, none⟩) len cp) := cell_later c1 (by simp)
  clear c1 B0
  go_wp2_with fail
  go_ret
  exact ⟨rfl, B1.alloc (by omega) _⟩
set_option maxRecDepth 100000 in
set_option maxHeartbeats 2000000 in
theorem rright_l5 (op A : Int) (B : Int) (nm p r : ByteArray) (lb lo len cp : Nat) (w : World) (h1 : (B == 0) = false) (h3 : (B != 0) = true) (h5 : 0 < len) (hi : opInfo op = some ⟨nm, 5, p, r⟩) :
    Calls Tryz.prog 65 #[.agg #[.int .i64 op, .int .i64 A, .int .i64 B, .slice (some ⟨lb, lo, none⟩) len cp]] w fun e w' => e = .returned (.bool (false)) ∧ Below w.heap.size w w' := by
  have B0 : Below w.heap.size w (w.alloc (.cells #[.int .i64 op, .int .i64 A, .int .i64 B, .slice (some ⟨lb, lo, none⟩) len cp] 33)) := (Below.refl _ _).alloc (Nat.le_refl _) _
  have HI := Lib.hid hi
  clear hi
  go_enter Tryz.func65, Tryz.ntmps65
  go_wp2_with fail
  refine (rof_any op _ nm p r 5 true (by rw [HI.out]; rfl) (by rw [HI.out]; rfl)).mono ?_
  rintro e w1 ⟨rfl, c1⟩
  have B1 := B0.trans (c1.mono B0.size)
  have s0 : w.heap.size < w1.heap.size := by have := c1.size; simp at this; omega
  have r0 : w1.cell? ⟨w.heap.size, 0, none⟩ = some (.int .i64 op) := cell_later c1 (by simp)
  have r1 : w1.cell? ⟨w.heap.size, 1, none⟩ = some (.int .i64 A) := cell_later c1 (by simp)
  have r2 : w1.cell? ⟨w.heap.size, 2, none⟩ = some (.int .i64 B) := cell_later c1 (by simp)
  have r3 : w1.cell? ⟨w.heap.size, 3, none⟩ = some (.slice (some ⟨lb, lo, none⟩) len cp) := cell_later c1 (by simp)
  clear c1 B0
  go_wp2_with fail
  go_ret
  exact ⟨rfl, B1.alloc (by omega) _⟩
set_option maxRecDepth 100000 in
set_option maxHeartbeats 2000000 in
theorem rright_s0 (op A : Int) (nm p r : ByteArray) (la : Option Addr) (cp : Nat) (w : World)  (hi : opInfo op = some ⟨nm, 0, p, r⟩) :
    Calls Tryz.prog 65 #[.agg #[.int .i64 op, .int .i64 A, .int .i64 0, .slice la 0 cp]] w fun e w' => e = .returned (.bool (A == 0)) ∧ Below w.heap.size w w' := by
  have B0 : Below w.heap.size w (w.alloc (.cells #[.int .i64 op, .int .i64 A, .int .i64 0, .slice la 0 cp] 33)) := (Below.refl _ _).alloc (Nat.le_refl _) _
  have HI := Lib.hid hi
  clear hi
  go_enter Tryz.func65, Tryz.ntmps65
  go_wp2_with fail
  refine (rof_any op _ nm p r 0 true (by rw [HI.out]; rfl) (by rw [HI.out]; rfl)).mono ?_
  rintro e w1 ⟨rfl, c1⟩
  have B1 := B0.trans (c1.mono B0.size)
  have s0 : w.heap.size < w1.heap.size := by have := c1.size; simp at this; omega
  have r0 : w1.cell? ⟨w.heap.size, 0, none⟩ = some (.int .i64 op) := cell_later c1 (by simp)
  have r1 : w1.cell? ⟨w.heap.size, 1, none⟩ = some (.int .i64 A) := cell_later c1 (by simp)
  have r2 : w1.cell? ⟨w.heap.size, 2, none⟩ = some (.int .i64 0) := cell_later c1 (by simp)
  have r3 : w1.cell? ⟨w.heap.size, 3, none⟩ = some (.slice la 0 cp) := cell_later c1 (by simp)
  clear c1 B0
  go_wp2_with fail
  go_ret
  exact ⟨rfl, B1.alloc (by omega) _⟩
set_option maxRecDepth 100000 in
set_option maxHeartbeats 2000000 in
theorem rright_s6 (op A : Int) (nm p r : ByteArray) (la : Option Addr) (cp : Nat) (w : World)  (hi : opInfo op = some ⟨nm, 6, p, r⟩) :
    Calls Tryz.prog 65 #[.agg #[.int .i64 op, .int .i64 A, .int .i64 0, .slice la 0 cp]] w fun e w' => e = .returned (.bool (A == 0)) ∧ Below w.heap.size w w' := by
  have B0 : Below w.heap.size w (w.alloc (.cells #[.int .i64 op, .int .i64 A, .int .i64 0, .slice la 0 cp] 33)) := (Below.refl _ _).alloc (Nat.le_refl _) _
  have HI := Lib.hid hi
  clear hi
  go_enter Tryz.func65, Tryz.ntmps65
  go_wp2_with fail
  refine (rof_any op _ nm p r 6 true (by rw [HI.out]; rfl) (by rw [HI.out]; rfl)).mono ?_
  rintro e w1 ⟨rfl, c1⟩
  have B1 := B0.trans (c1.mono B0.size)
  have s0 : w.heap.size < w1.heap.size := by have := c1.size; simp at this; omega
  have r0 : w1.cell? ⟨w.heap.size, 0, none⟩ = some (.int .i64 op) := cell_later c1 (by simp)
  have r1 : w1.cell? ⟨w.heap.size, 1, none⟩ = some (.int .i64 A) := cell_later c1 (by simp)
  have r2 : w1.cell? ⟨w.heap.size, 2, none⟩ = some (.int .i64 0) := cell_later c1 (by simp)
  have r3 : w1.cell? ⟨w.heap.size, 3, none⟩ = some (.slice la 0 cp) := cell_later c1 (by simp)
  clear c1 B0
  go_wp2_with fail
  go_ret
  exact ⟨rfl, B1.alloc (by omega) _⟩
set_option maxRecDepth 100000 in
set_option maxHeartbeats 2000000 in
theorem rright_s1 (op A : Int) (nm p r : ByteArray) (la : Option Addr) (cp : Nat) (w : World)  (hi : opInfo op = some ⟨nm, 1, p, r⟩) :
    Calls Tryz.prog 65 #[.agg #[.int .i64 op, .int .i64 A, .int .i64 0, .slice la 0 cp]] w fun e w' => e = .returned (.bool (A == 64 || A == 127 || A == 126)) ∧ Below w.heap.size w w' := by
  have B0 : Below w.heap.size w (w.alloc (.cells #[.int .i64 op, .int .i64 A, .int .i64 0, .slice la 0 cp] 33)) := (Below.refl _ _).alloc (Nat.le_refl _) _
  have HI := Lib.hid hi
  clear hi
  go_enter Tryz.func65, Tryz.ntmps65
  go_wp2_with fail
  refine (rof_any op _ nm p r 1 true (by rw [HI.out]; rfl) (by rw [HI.out]; rfl)).mono ?_
  rintro e w1 ⟨rfl, c1⟩
  have B1 := B0.trans (c1.mono B0.size)
  have s0 : w.heap.size < w1.heap.size := by have := c1.size; simp at this; omega
  have r0 : w1.cell? ⟨w.heap.size, 0, none⟩ = some (.int .i64 op) := cell_later c1 (by simp)
  have r1 : w1.cell? ⟨w.heap.size, 1, none⟩ = some (.int .i64 A) := cell_later c1 (by simp)
  have r2 : w1.cell? ⟨w.heap.size, 2, none⟩ = some (.int .i64 0) := cell_later c1 (by simp)
  have r3 : w1.cell? ⟨w.heap.size, 3, none⟩ = some (.slice la 0 cp) := cell_later c1 (by simp)
  clear c1 B0
  go_wp2_with fail
  all_goals
    go_ret
    refine ⟨?_, B1.alloc (by omega) _⟩
    refine congrArg (fun b => Ending.returned (.bool b)) ?_
    rw [Bool.eq_iff_iff]
    simp
    try omega
set_option maxRecDepth 100000 in
set_option maxHeartbeats 2000000 in
theorem rright_s2 (op A : Int) (nm p r : ByteArray) (la : Option Addr) (cp : Nat) (b : Bool) (w : World) (hw : wordB A = b) (hi : opInfo op = some ⟨nm, 2, p, r⟩) :
    Calls Tryz.prog 65 #[.agg #[.int .i64 op, .int .i64 A, .int .i64 0, .slice la 0 cp]] w fun e w' => e = .returned (.bool (b)) ∧ Below w.heap.size w w' := by
  have B0 : Below w.heap.size w (w.alloc (.cells #[.int .i64 op, .int .i64 A, .int .i64 0, .slice la 0 cp] 33)) := (Below.refl _ _).alloc (Nat.le_refl _) _
  have HI := Lib.hid hi
  clear hi
  go_enter Tryz.func65, Tryz.ntmps65
  go_wp2_with fail
  refine (rof_any op _ nm p r 2 true (by rw [HI.out]; rfl) (by rw [HI.out]; rfl)).mono ?_
  rintro e w1 ⟨rfl, c1⟩
  have B1 := B0.trans (c1.mono B0.size)
  have s0 : w.heap.size < w1.heap.size := by have := c1.size; simp at this; omega
  have r0 : w1.cell? ⟨w.heap.size, 0, none⟩ = some (.int .i64 op) := cell_later c1 (by simp)
  have r1 : w1.cell? ⟨w.heap.size, 1, none⟩ = some (.int .i64 A) := cell_later c1 (by simp)
  have r2 : w1.cell? ⟨w.heap.size, 2, none⟩ = some (.int .i64 0) := cell_later c1 (by simp)
  have r3 : w1.cell? ⟨w.heap.size, 3, none⟩ = some (.slice la 0 cp) := cell_later c1 (by simp)
  clear c1 B0
  have HW := Lib.hid hw
  clear hw
  go_wp2_with fail
  refine (rword_any A _ b HW.out).mono ?_
  rintro e w2 ⟨rfl, rfl⟩
  go_wp2_with fail
  go_ret
  exact ⟨rfl, B1.alloc (by omega) _⟩
set_option maxRecDepth 100000 in
set_option maxHeartbeats 2000000 in
theorem rright_s4 (op A : Int) (nm p r : ByteArray) (la : Option Addr) (cp : Nat) (b : Bool) (w : World) (hw : wordB A = b) (hi : opInfo op = some ⟨nm, 4, p, r⟩) :
    Calls Tryz.prog 65 #[.agg #[.int .i64 op, .int .i64 A, .int .i64 0, .slice la 0 cp]] w fun e w' => e = .returned (.bool (b)) ∧ Below w.heap.size w w' := by
  have B0 : Below w.heap.size w (w.alloc (.cells #[.int .i64 op, .int .i64 A, .int .i64 0, .slice la 0 cp] 33)) := (Below.refl _ _).alloc (Nat.le_refl _) _
  have HI := Lib.hid hi
  clear hi
  go_enter Tryz.func65, Tryz.ntmps65
  go_wp2_with fail
  refine (rof_any op _ nm p r 4 true (by rw [HI.out]; rfl) (by rw [HI.out]; rfl)).mono ?_
  rintro e w1 ⟨rfl, c1⟩
  have B1 := B0.trans (c1.mono B0.size)
  have s0 : w.heap.size < w1.heap.size := by have := c1.size; simp at this; omega
  have r0 : w1.cell? ⟨w.heap.size, 0, none⟩ = some (.int .i64 op) := cell_later c1 (by simp)
  have r1 : w1.cell? ⟨w.heap.size, 1, none⟩ = some (.int .i64 A) := cell_later c1 (by simp)
  have r2 : w1.cell? ⟨w.heap.size, 2, none⟩ = some (.int .i64 0) := cell_later c1 (by simp)
  have r3 : w1.cell? ⟨w.heap.size, 3, none⟩ = some (.slice la 0 cp) := cell_later c1 (by simp)
  clear c1 B0
  have HW := Lib.hid hw
  clear hw
  go_wp2_with fail
  refine (rword_any A _ b HW.out).mono ?_
  rintro e w2 ⟨rfl, rfl⟩
  go_wp2_with fail
  go_ret
  exact ⟨rfl, B1.alloc (by omega) _⟩
set_option maxRecDepth 100000 in
set_option maxHeartbeats 2000000 in
theorem rright_s5a (op A : Int) (nm p r : ByteArray) (la : Option Addr) (cp : Nat) (b c : Bool) (w : World) (hw : wordB A = b) (hv : wordB 0 = c) (hi : opInfo op = some ⟨nm, 5, p, r⟩) :
    Calls Tryz.prog 65 #[.agg #[.int .i64 op, .int .i64 A, .int .i64 0, .slice la 0 cp]] w fun e w' => e = .returned (.bool (b && c)) ∧ Below w.heap.size w w' := by
  have B0 : Below w.heap.size w (w.alloc (.cells #[.int .i64 op, .int .i64 A, .int .i64 0, .slice la 0 cp] 33)) := (Below.refl _ _).alloc (Nat.le_refl _) _
  have HI := Lib.hid hi
  clear hi
  go_enter Tryz.func65, Tryz.ntmps65
  go_wp2_with fail
  refine (rof_any op _ nm p r 5 true (by rw [HI.out]; rfl) (by rw [HI.out]; rfl)).mono ?_
  rintro e w1 ⟨rfl, c1⟩
  have B1 := B0.trans (c1.mono B0.size)
  have s0 : w.heap.size < w1.heap.size := by have := c1.size; simp at this; omega
  have r0 : w1.cell? ⟨w.heap.size, 0, none⟩ = some (.int .i64 op) := cell_later c1 (by simp)
  have r1 : w1.cell? ⟨w.heap.size, 1, none⟩ = some (.int .i64 A) := cell_later c1 (by simp)
  have r2 : w1.cell? ⟨w.heap.size, 2, none⟩ = some (.int .i64 0) := cell_later c1 (by simp)
  have r3 : w1.cell? ⟨w.heap.size, 3, none⟩ = some (.slice la 0 cp) := cell_later c1 (by simp)
  clear c1 B0
  have HW := Lib.hid hw
  have HV := Lib.hid hv
  clear hw hv
  go_wp2_with fail
  cases b
  · refine (rword_any A _ false HW.out).mono ?_
    rintro e w2 ⟨rfl, rfl⟩
    go_wp2_with fail
    go_ret
    exact ⟨rfl, B1.alloc (by omega) _⟩
  · refine (rword_any A _ true HW.out).mono ?_
    rintro e w2 ⟨rfl, rfl⟩
    go_wp2_with fail
    refine (rword_any 0 _ c HV.out).mono ?_
    rintro e w2 ⟨rfl, rfl⟩
    go_wp2_with fail
    go_ret
    exact ⟨rfl, B1.alloc (by omega) _⟩
set_option maxRecDepth 100000 in
set_option maxHeartbeats 2000000 in
theorem rright_s5b (op A : Int) (B : Int) (nm p r : ByteArray) (la : Option Addr) (cp : Nat) (b c : Bool) (w : World) (h1 : (B == 0) = false) (h3 : (B != 0) = true) (hw : wordB A = b) (hv : wordB B = c) (hi : opInfo op = some ⟨nm, 5, p, r⟩) :
    Calls Tryz.prog 65 #[.agg #[.int .i64 op, .int .i64 A, .int .i64 B, .slice la 0 cp]] w fun e w' => e = .returned (.bool (b && c)) ∧ Below w.heap.size w w' := by
  have B0 : Below w.heap.size w (w.alloc (.cells #[.int .i64 op, .int .i64 A, .int .i64 B, .slice la 0 cp] 33)) := (Below.refl _ _).alloc (Nat.le_refl _) _
  have HI := Lib.hid hi
  clear hi
  go_enter Tryz.func65, Tryz.ntmps65
  go_wp2_with fail
  refine (rof_any op _ nm p r 5 true (by rw [HI.out]; rfl) (by rw [HI.out]; rfl)).mono ?_
  rintro e w1 ⟨rfl, c1⟩
  have B1 := B0.trans (c1.mono B0.size)
  have s0 : w.heap.size < w1.heap.size := by have := c1.size; simp at this; omega
  have r0 : w1.cell? ⟨w.heap.size, 0, none⟩ = some (.int .i64 op) := cell_later c1 (by simp)
  have r1 : w1.cell? ⟨w.heap.size, 1, none⟩ = some (.int .i64 A) := cell_later c1 (by simp)
  have r2 : w1.cell? ⟨w.heap.size, 2, none⟩ = some (.int .i64 B) := cell_later c1 (by simp)
  have r3 : w1.cell? ⟨w.heap.size, 3, none⟩ = some (.slice la 0 cp) := cell_later c1 (by simp)
  clear c1 B0
  have HW := Lib.hid hw
  have HV := Lib.hid hv
  clear hw hv
  go_wp2_with fail
  cases b
  · refine (rword_any A _ false HW.out).mono ?_
    rintro e w2 ⟨rfl, rfl⟩
    go_wp2_with fail
    go_ret
    exact ⟨rfl, B1.alloc (by omega) _⟩
  · refine (rword_any A _ true HW.out).mono ?_
    rintro e w2 ⟨rfl, rfl⟩
    go_wp2_with fail
    refine (rword_any B _ c HV.out).mono ?_
    rintro e w2 ⟨rfl, rfl⟩
    go_wp2_with fail
    go_ret
    exact ⟨rfl, B1.alloc (by omega) _⟩
set_option maxRecDepth 100000 in
set_option maxHeartbeats 2000000 in
theorem rright_s7 (op A : Int) (nm p r : ByteArray) (la : Option Addr) (cp : Nat) (w : World)  (hi : opInfo op = some ⟨nm, 7, p, r⟩) :
    Calls Tryz.prog 65 #[.agg #[.int .i64 op, .int .i64 A, .int .i64 0, .slice la 0 cp]] w fun e w' => e = .returned (.bool (op == 66 || A == wrap32 A)) ∧ Below w.heap.size w w' := by
  have B0 : Below w.heap.size w (w.alloc (.cells #[.int .i64 op, .int .i64 A, .int .i64 0, .slice la 0 cp] 33)) := (Below.refl _ _).alloc (Nat.le_refl _) _
  have HI := Lib.hid hi
  clear hi
  go_enter Tryz.func65, Tryz.ntmps65
  go_wp2_with fail
  refine (rof_any op _ nm p r 7 true (by rw [HI.out]; rfl) (by rw [HI.out]; rfl)).mono ?_
  rintro e w1 ⟨rfl, c1⟩
  have B1 := B0.trans (c1.mono B0.size)
  have s0 : w.heap.size < w1.heap.size := by have := c1.size; simp at this; omega
  have r0 : w1.cell? ⟨w.heap.size, 0, none⟩ = some (.int .i64 op) := cell_later c1 (by simp)
  have r1 : w1.cell? ⟨w.heap.size, 1, none⟩ = some (.int .i64 A) := cell_later c1 (by simp)
  have r2 : w1.cell? ⟨w.heap.size, 2, none⟩ = some (.int .i64 0) := cell_later c1 (by simp)
  have r3 : w1.cell? ⟨w.heap.size, 3, none⟩ = some (.slice la 0 cp) := cell_later c1 (by simp)
  clear c1 B0
  go_wp2_with fail
  all_goals
    go_ret
    refine ⟨?_, B1.alloc (by omega) _⟩
    refine congrArg (fun b => Ending.returned (.bool b)) ?_
    rw [Bool.eq_iff_iff]
    unfold wrap32
    simp
    try omega
end Go.Proofs.YteidhccnbfikcaaGreatDoor.Op

/- OpRefG: What the reference's Right of chapter 3 answers, whole. No condition beyond what each theorem names. -/
namespace Go.Proofs.YteidhccnbfikcaaGreatDoor.Op
open Go.RowKit Go.Maps
set_option linter.unusedVariables false
def labR (zs : List Int) (A : Int) : Bool := if allWords zs then decide (zs.length ≤ 4096) && wordB A else false
theorem labR_no {zs : List Int} {A : Int} (h : allWords zs = false) : labR zs A = false := by unfold labR; rw [h]; rfl
theorem labR_long {zs : List Int} {A : Int} (h : 4096 < zs.length) : labR zs A = false := by
  unfold labR
  rw [decide_eq_false (show ¬ zs.length ≤ 4096 by omega)]
  cases allWords zs <;> rfl
theorem labR_yes {zs : List Int} {A : Int} (h : allWords zs = true) (h2 : zs.length ≤ 4096) : labR zs A = wordB A := by
  unfold labR
  rw [h, decide_eq_true h2]
  simp
def RelS (zs : List Int) (i : Value) : Prop := ∃ k : Nat, k ≤ zs.length ∧ i = .int .i64 k ∧ ∀ j, j < k → wordB (zs.getD j 0) = true
set_option maxRecDepth 100000 in
set_option maxHeartbeats 2000000 in
theorem rright_s3 (op A : Int) (zs : List Int) (nm p r : ByteArray) (lb lo cp : Nat) (w : World) (hpos : 0 < zs.length) (h63 : zs.length ≤ 9223372036854775807) (hlb : lb < w.heap.size) (hz : ∀ j z, zs[j]? = some z → w.cell? ⟨lb, lo + j, none⟩ = some (.int .i64 z)) (hi : opInfo op = some ⟨nm, 3, p, r⟩) :
    Calls Tryz.prog 65 #[.agg #[.int .i64 op, .int .i64 A, .int .i64 0, .slice (some ⟨lb, lo, none⟩) zs.length cp]] w fun e w' => e = .returned (.bool (labR zs A)) ∧ Below w.heap.size w w' := by
  have B0 : Below w.heap.size w (w.alloc (.cells #[.int .i64 op, .int .i64 A, .int .i64 0, .slice (some ⟨lb, lo, none⟩) zs.length cp] 33)) := (Below.refl _ _).alloc (Nat.le_refl _) _
  have HI := Lib.hid hi
  have HZ := Lib.hid hz
  clear hi hz
  go_enter Tryz.func65, Tryz.ntmps65
  go_wp2_with fail
  refine (rof_any op _ nm p r 3 true (by rw [HI.out]; rfl) (by rw [HI.out]; rfl)).mono ?_
  rintro e w1 ⟨rfl, c1⟩
  have B1 := B0.trans (c1.mono B0.size)
  have s0 : w.heap.size < w1.heap.size := by have := c1.size; simp at this; omega
  have r0 : w1.cell? ⟨w.heap.size, 0, none⟩ = some (.int .i64 op) := cell_later c1 (by simp)
  have r1 : w1.cell? ⟨w.heap.size, 1, none⟩ = some (.int .i64 A) := cell_later c1 (by simp)
  have r2 : w1.cell? ⟨w.heap.size, 2, none⟩ = some (.int .i64 0) := cell_later c1 (by simp)
  have r3 : w1.cell? ⟨w.heap.size, 3, none⟩ = some (.slice (some ⟨lb, lo, none⟩) zs.length cp) := cell_later c1 (by simp)
  clear c1 B0
  have BW := Lib.hid (B1.alloc B1.size (.cells #[.string nm, .int .i64 3, .string p, .string r] 121))
  have T1 := Lib.hid (show (w1.alloc (.cells #[.string nm, .int .i64 3, .string p, .string r] 121)).cell? ⟨w.heap.size, 1, none⟩ = some (.int .i64 A) from (World.cell?_alloc_past _ _ _ s0).trans r1)
  have T3 := Lib.hid (show (w1.alloc (.cells #[.string nm, .int .i64 3, .string p, .string r] 121)).cell? ⟨w.heap.size, 3, none⟩ = some (.slice (some ⟨lb, lo, none⟩) zs.length cp) from (World.cell?_alloc_past _ _ _ s0).trans r3)
  go_wp2_with fail
  clear r0 r1 r2 r3
  obtain ⟨W2, hW2⟩ : ∃ W2, w1.alloc (.cells #[.string nm, .int .i64 3, .string p, .string r] 121) = W2 := ⟨_, rfl⟩
  rw [hW2] at BW T1 T3 ⊢
  clear hW2 B1
  have t1 := T1.out
  have t3 := T3.out
  go_loop [5] (fun i => RelS zs i) (fun i => zs.length - (intOf i).toNat)
  case atStart => exact ⟨0, Nat.zero_le _, rfl, fun j hj => by omega⟩
  case round =>
    obtain ⟨k, hk, rfl, hpre⟩ := hrel
    have HP := Lib.hid hpre
    clear hpre
    by_cases hlt : k < zs.length
    · obtain ⟨z, hz⟩ : ∃ z, zs[k]? = some z := ⟨_, List.getElem?_eq_getElem hlt⟩
      have c0 : W2.cell? ⟨lb, lo + k, none⟩ = some (.int .i64 z) := cell_later BW.out (HZ.out k z hz)
      have hd : decide (k < zs.length) = true := decide_eq_true hlt
      have HZK := Lib.hid hz
      clear hz
      go_wp2_with fail
      cases hw : wordB z
      · refine (rword_any z _ false hw).mono ?_
        rintro e w2 ⟨rfl, rfl⟩
        have hno : allWords zs = false := by
          unfold allWords
          rw [List.all_eq_false]
          exact ⟨z, List.mem_of_getElem? HZK.out, by simp [hw]⟩
        have HNO := Lib.hid hno
        clear hno hw
        go_wp2_with fail
        go_ret
        rw [labR_no HNO.out]
        exact ⟨rfl, BW.out⟩
      · refine (rword_any z _ true hw).mono ?_
        rintro e w2 ⟨rfl, rfl⟩
        have HWZ := Lib.hid hw
        clear hw
        go_wp2_with fail
        go_round
        case rel => exact ⟨k + 1, by omega, by go_num, fun j hj => by rcases (show j < k ∨ j = k by omega) with h9 | rfl; exact HP.out j h9; rw [List.getD_eq_getElem?_getD, HZK.out]; exact HWZ.out⟩
        case measure => simp [intOf]; omega
    · obtain rfl : k = zs.length := by omega
      have hd : decide (zs.length < zs.length) = false := by simp
      have hy : allWords zs = true := by
        unfold allWords
        rw [List.all_eq_true]
        intro x hx
        obtain ⟨j, hj, rfl⟩ := List.getElem_of_mem hx
        have := HP.out j hj
        rw [List.getD_eq_getElem?_getD, List.getElem?_eq_getElem hj] at this
        exact this
      have HY := Lib.hid hy
      clear hy
      by_cases hle : zs.length ≤ 4096
      · obtain ⟨b, hb⟩ : ∃ b, wordB A = b := ⟨_, rfl⟩
        have HB := Lib.hid hb
        clear hb
        go_wp2_with fail
        refine (rword_any A _ b HB.out).mono ?_
        rintro e w2 ⟨rfl, rfl⟩
        go_wp2_with fail
        go_ret
        rw [labR_yes HY.out hle, HB.out]
        exact ⟨rfl, BW.out⟩
      · have hl2 : decide (zs.length ≤ 4096) = false := decide_eq_false hle
        go_wp2_with fail
        go_ret
        rw [labR_long (by omega)]
        exact ⟨rfl, BW.out⟩
set_option maxRecDepth 100000 in
set_option maxHeartbeats 2000000 in
theorem rright_s3n (op A : Int) (nm p r : ByteArray) (la : Option Addr) (cp : Nat) (b : Bool) (w : World) (hw : wordB A = b) (hi : opInfo op = some ⟨nm, 3, p, r⟩) :
    Calls Tryz.prog 65 #[.agg #[.int .i64 op, .int .i64 A, .int .i64 0, .slice la 0 cp]] w fun e w' => e = .returned (.bool b) ∧ Below w.heap.size w w' := by
  have B0 : Below w.heap.size w (w.alloc (.cells #[.int .i64 op, .int .i64 A, .int .i64 0, .slice la 0 cp] 33)) := (Below.refl _ _).alloc (Nat.le_refl _) _
  have HI := Lib.hid hi
  have HW := Lib.hid hw
  clear hi hw
  go_enter Tryz.func65, Tryz.ntmps65
  go_wp2_with fail
  refine (rof_any op _ nm p r 3 true (by rw [HI.out]; rfl) (by rw [HI.out]; rfl)).mono ?_
  rintro e w1 ⟨rfl, c1⟩
  have B1 := B0.trans (c1.mono B0.size)
  have s0 : w.heap.size < w1.heap.size := by have := c1.size; simp at this; omega
  have r0 : w1.cell? ⟨w.heap.size, 0, none⟩ = some (.int .i64 op) := cell_later c1 (by simp)
  have r1 : w1.cell? ⟨w.heap.size, 1, none⟩ = some (.int .i64 A) := cell_later c1 (by simp)
  have r2 : w1.cell? ⟨w.heap.size, 2, none⟩ = some (.int .i64 0) := cell_later c1 (by simp)
  have r3 : w1.cell? ⟨w.heap.size, 3, none⟩ = some (.slice la 0 cp) := cell_later c1 (by simp)
  clear c1 B0
  go_wp2_with fail
  refine wp_loop_rounds 1 ?_
  rw [rounds_succ]
  go_wp2_with fail
  refine (rword_any A _ b HW.out).mono ?_
  rintro e w2 ⟨rfl, rfl⟩
  go_wp2_with fail
  go_ret
  exact ⟨rfl, B1.alloc (by omega) _⟩
theorem rright_nil (op A B : Int) (la : Option Addr) (cp : Nat) (w : World) :
    Calls Tryz.prog 65 #[.agg #[.int .i64 op, .int .i64 A, .int .i64 B, .slice la 0 cp]] w fun e w' => e = .returned (.bool (rightB op A B [])) ∧ Below w.heap.size w w' := by
  cases hi : opInfo op with
  | none =>
    rw [show rightB op A B [] = false by unfold rightB; rw [hi]]
    exact rright_none op A B _ w hi
  | some i =>
    obtain ⟨nm, sh, p, r⟩ := i
    obtain ⟨s0, s1⟩ := shape_range hi
    by_cases hb : B ≠ 0 ∧ sh ≠ 5
    · rw [right_bad hi A B [] hb.1 hb.2]
      exact rright_b op A B _ nm p r sh w (beq_eq_false_iff_ne.2 hb.1) (beq_eq_false_iff_ne.2 hb.2) (bne_iff_ne.2 hb.1) (bne_iff_ne.2 hb.2) hi
    · have hb2 : B = 0 ∨ sh = 5 := by
        by_cases h0 : B = 0
        · exact .inl h0
        · exact .inr (Classical.byContradiction fun h => hb ⟨h0, h⟩)
      rw [right_tail hi A B hb2]
      by_cases h5 : sh = 5
      · subst h5
        rw [tail_w 5 op A B (by decide) (by decide)]
        by_cases h0 : B = 0
        · subst h0
          exact rright_s5a op A nm p r la cp _ _ w rfl rfl hi
        · exact rright_s5b op A B nm p r la cp _ _ w (beq_eq_false_iff_ne.2 h0) (bne_iff_ne.2 h0) rfl rfl hi
      · obtain rfl : B = 0 := hb2.resolve_right h5
        rcases (show sh = 0 ∨ sh = 1 ∨ sh = 2 ∨ sh = 3 ∨ sh = 4 ∨ sh = 6 ∨ sh = 7 by simp at s0 s1; omega) with rfl | rfl | rfl | rfl | rfl | rfl | rfl
        · rw [tail_0]; exact rright_s0 op A nm p r la cp w hi
        · rw [tail_1]; exact rright_s1 op A nm p r la cp w hi
        · rw [tail_w 2 op A 0 (by decide) (by decide), word0, Bool.and_true]; exact rright_s2 op A nm p r la cp _ w rfl hi
        · rw [tail_w 3 op A 0 (by decide) (by decide), word0, Bool.and_true]; exact rright_s3n op A nm p r la cp _ w rfl hi
        · rw [tail_w 4 op A 0 (by decide) (by decide), word0, Bool.and_true]; exact rright_s4 op A nm p r la cp _ w rfl hi
        · rw [tail_6]; exact rright_s6 op A nm p r la cp w hi
        · rw [tail_7]; exact rright_s7 op A nm p r la cp w hi
/-- the reference's Right -/
theorem rright_any (op A B : Int) (lv : Value) (zs : List Int) (w : World) (h63 : zs.length ≤ 9223372036854775807) (hl : IntsAt w lv zs) :
    Calls Tryz.prog 65 #[.agg #[.int .i64 op, .int .i64 A, .int .i64 B, lv]] w fun e w' => e = .returned (.bool (rightB op A B zs)) ∧ Below w.heap.size w w' := by
  rcases hl with ⟨rfl, rfl⟩ | ⟨lb, lo, cp, rfl, hlb, hz⟩ | ⟨la, cp, rfl, rfl⟩
  · exact rright_nil op A B none 0 w
  rotate_left
  · exact rright_nil op A B la cp w
  · by_cases h0 : zs = []
    · subst h0
      exact rright_nil op A B (some ⟨lb, lo, none⟩) cp w
    · have hpos : 0 < zs.length := List.length_pos_iff.2 h0
      cases hi : opInfo op with
      | none =>
        rw [show rightB op A B zs = false by unfold rightB; rw [hi]]
        exact rright_none op A B _ w hi
      | some i =>
        obtain ⟨nm, sh, p, r⟩ := i
        by_cases hb : B ≠ 0 ∧ sh ≠ 5
        · rw [right_bad hi A B zs hb.1 hb.2]
          exact rright_b op A B _ nm p r sh w (beq_eq_false_iff_ne.2 hb.1) (beq_eq_false_iff_ne.2 hb.2) (bne_iff_ne.2 hb.1) (bne_iff_ne.2 hb.2) hi
        · have e0 : rightB op A B zs = rightI ⟨nm, sh, p, r⟩ op A B zs := by unfold rightB; rw [hi]
          rw [e0]
          unfold rightI
          rw [if_neg hb]
          by_cases h3 : sh = 3
          · subst h3
            obtain rfl : B = 0 := Classical.byContradiction fun h => hb ⟨h, by decide⟩
            rw [if_neg (by simp)]
            have e1 : (if 4096 < zs.length then false else if allWords zs then tailB (⟨nm, 3, p, r⟩ : Info).shape op A 0 else false) = labR zs A := by
              by_cases h4 : 4096 < zs.length
              · rw [if_pos h4, labR_long h4]
              · rw [if_neg h4, tail_w 3 op A 0 (by decide) (by decide), word0, Bool.and_true]
                unfold labR
                rw [decide_eq_true (show zs.length ≤ 4096 by omega), Bool.true_and]
            rw [e1]
            exact rright_s3 op A zs nm p r lb lo cp w hpos h63 hlb hz hi
          · rw [if_pos ⟨h0, h3⟩]
            by_cases hB : B = 0
            · subst hB
              exact rright_l0 op A nm p r sh lb lo zs.length cp w (beq_eq_false_iff_ne.2 h3) (bne_iff_ne.2 h3) hpos hi
            · obtain rfl : sh = 5 := Classical.byContradiction fun h => hb ⟨hB, h⟩
              exact rright_l5 op A B nm p r lb lo zs.length cp w (beq_eq_false_iff_ne.2 hB) (bne_iff_ne.2 hB) hpos hi
end Go.Proofs.YteidhccnbfikcaaGreatDoor.Op
