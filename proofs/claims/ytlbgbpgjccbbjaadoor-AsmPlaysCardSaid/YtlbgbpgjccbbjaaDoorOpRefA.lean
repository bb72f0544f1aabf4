/-
  What the reference's rows of chapter 3 answer. No condition beyond what each theorem names.
-/
import Derived.Test.YtlbgbpgjccbbjaaDoorOpEx
namespace Go.Proofs.YtlbgbpgjccbbjaaDoor.Op
open Go.RowKit Go.Maps
set_option linter.unusedVariables false
def rowV (e : Int × Info) : List Value := [.int .i64 e.1, .string e.2.name, .int .i64 e.2.shape, .string e.2.params, .string e.2.results]
def rowsV (l : List (Int × Info)) : List Value := l.flatMap rowV
def mkRow (code shape : Int) (p r : ByteArray) (names : List ByteArray) (i : Nat) : Int × Info := (code + i, ⟨names.getD i ⟨#[]⟩, shape, p, r⟩)
def mkRows (code shape : Int) (p r : ByteArray) (names : List ByteArray) (n : Nat) : List (Int × Info) := (List.range n).map (mkRow code shape p r names)
theorem mkRows_succ (code shape : Int) (p r : ByteArray) (names : List ByteArray) (n : Nat) : rowsV (mkRows code shape p r names (n + 1)) = rowsV (mkRows code shape p r names n) ++ rowV (mkRow code shape p r names n) := by
  unfold rowsV mkRows
  rw [List.range_succ, List.map_append, List.flatMap_append]
  simp
def MadeRows (w : World) (l : List (Int × Info)) (e : Ending) (w' : World) : Prop := ∃ v, e = .returned v ∧ w'.ownsRow w.heap.size 79 5 v l.length (rowsV l) ∧ Below w.heap.size w w'
def zeroRow : Value := .agg #[.int .i64 0, .string ⟨#[]⟩, .int .i64 0, .string ⟨#[]⟩, .string ⟨#[]⟩]
theorem info_row : (Tryd.prog.info? 79).map (fun i => (i.zero, i.size, i.bytes)) = some (some zeroRow, 5, 64) := by kernel_rfl
theorem info_row_parts : ∃ i, Tryd.prog.info? 79 = some i ∧ i.zero = some zeroRow ∧ i.size = 5 ∧ i.bytes = 64 := by
  have h := info_row
  rw [Option.map_eq_some_iff] at h
  obtain ⟨i, hi, he⟩ := h
  simp only [Prod.mk.injEq] at he
  exact ⟨i, hi, he.1, he.2.1, he.2.2⟩
theorem one_rowV (e : Int × Info) : ∀ u ∈ rowV e, u.oneCell' = true := by
  intro u hu
  simp [rowV] at hu
  rcases hu with rfl | rfl | rfl | rfl | rfl <;> rfl
def RelRows (w : World) (code shape : Int) (p r : ByteArray) (names : List ByteArray) (v i : Value) (wr : World) : Prop := ∃ k : Nat, k ≤ names.length ∧ i = .int .i64 k ∧ wr.ownsRow w.heap.size 79 5 v k (rowsV (mkRows code shape p r names k)) ∧ Below w.heap.size w wr
set_option maxRecDepth 100000 in
set_option maxHeartbeats 1000000 in
theorem rows_any (code shape : Int) (p r : ByteArray) (names : List ByteArray) (b c : Nat) (w : World) (h0 : 0 ≤ code) (h1 : code < 1000) (hn : names.length < 1000) (hb : b < w.heap.size) (hc : ∀ j, j < names.length → w.cell? ⟨b, j, none⟩ = some (.string (names.getD j ⟨#[]⟩))) :
    Calls Tryd.prog 55 #[.int .i64 code, .int .i64 shape, .string p, .string r, .slice (some ⟨b, 0, none⟩) names.length c] w (MadeRows w (mkRows code shape p r names names.length)) := by
  obtain ⟨i0, hi, hz0, hz1, hz2⟩ := info_row_parts
  have HC := Lib.hid hc
  clear hc
  go_enter Tryd.func55, Tryd.ntmps55
  go_wp2_with fail
  go_loopw [11, 12] (fun v i wr => RelRows w code shape p r names v i wr) (fun _ i _ => names.length - (intOf i).toNat)
  case atStart => exact ⟨0, Nat.zero_le _, rfl, World.ownsRow_nil _ _ _ _, Below.refl _ _⟩
  case round =>
    obtain ⟨k, hk, rfl, hown, hbel⟩ := hrel
    by_cases hlt : k < names.length
    · obtain ⟨nm, hnm⟩ : ∃ nm, names.getD k ⟨#[]⟩ = nm := ⟨_, rfl⟩
      have c0 : wr.cell? ⟨b, k, none⟩ = some (.string nm) := by rw [← hnm]; exact cell_later hbel (HC.out k hlt)
      have hd : decide (k < names.length) = true := decide_eq_true hlt
      have HNM := Lib.hid hnm
      clear hnm
      go_wp2_with (at_builtin; refine wpList_append_own _ rfl _ _ 76 rfl w.heap.size 79 i0 zeroRow 5 64 Tryd.underlying76 hi hz0 hz1 hz2 rfl (by decide) _ _ _ rfl (hown.alloc _) ⟨wr.heap.size, 0, none⟩ 1 1 (rowV (code + k, ⟨nm, shape, p, r⟩)) rfl rfl ?c1 ?c2 ?c3 ?c4 ?c5 ?_)
      case c1 =>
        intro j u hj
        rw [show (⟨wr.heap.size, 0, none⟩ : Addr).add j = ⟨wr.heap.size, j, none⟩ by rw [Addr.add_lit, Nat.zero_add], World.cell?_alloc_at _ _ _ _ rfl, ← hj]
        simp [rowV]
      case c2 => exact one_rowV _
      case c3 => unfold maxLen; omega
      case c4 => omega
      case c5 => have := hbel.size; simp; omega
      intro v' w1 hown1 hgrow _
      have hown2 := Lib.hid (show w1.ownsRow w.heap.size 79 5 v' (k + 1) (rowsV (mkRows code shape p r names (k + 1))) by
        rw [mkRows_succ]; unfold mkRow; rw [HNM.out]; exact hown1)
      have hbel1 : Below w.heap.size w w1 := (hbel.alloc hbel.size _).grown hgrow (by have := hbel.size; simp; omega) (fun k hk => (hown.lt k hk).1)
      clear hown1 hgrow hown
      go_wp2_with fail
      go_roundw
      case rel => exact ⟨k + 1, by omega, by go_num, hown2.out, hbel1⟩
      case measure => simp [intOf]; omega
    · obtain rfl : k = names.length := by omega
      have hd : decide (names.length < names.length) = false := by simp
      have HO := Lib.hid hown
      clear hown
      go_wp2_with fail
      go_ret
      exact ⟨_, rfl, by unfold mkRows; rw [List.length_map, List.length_range]; exact HO.out, hbel⟩
end Go.Proofs.YtlbgbpgjccbbjaaDoor.Op
