/-
  What the reference's All of chapter 3 answers. No condition beyond what each theorem names.
-/
import Derived.Test.YtlbgbpgjccbbjaaDoorOpRefB
namespace Go.Proofs.YtlbgbpgjccbbjaaDoor.Op
open Go.RowKit Go.Maps
set_option linter.unusedVariables false
theorem mkRows_len (code shape : Int) (p r : ByteArray) (names : List ByteArray) (n : Nat) : (mkRows code shape p r names n).length = n := by
  unfold mkRows; rw [List.length_map, List.length_range]
theorem numRows_len (pre t : ByteArray) (zero ops : Int) (a b : Nat) : (numRows pre t zero ops a b).length = 1 + a + b := by
  simp [numRows]; omega
theorem strs_at (names : List ByteArray) (A : Array Value) (hA : A = (names.map Value.string).toArray) (j : Nat) (h : j < names.length) : A[j]? = some (.string (names.getD j ⟨#[]⟩)) := by
  subst hA
  simp [h, List.getD]
theorem rows_new (code shape : Int) (p r : ByteArray) (names : List ByteArray) (A : Array Value) (hA : A = (names.map Value.string).toArray) (W : World) (c : Nat) (h0 : 0 ≤ code) (h1 : code < 1000) (hn : names.length < 1000) :
    Calls Tryd.prog 55 #[.int .i64 code, .int .i64 shape, .string p, .string r, .slice (some ⟨W.heap.size, 0, none⟩) names.length c] (W.alloc (.cells A 9)) (MadeRows (W.alloc (.cells A 9)) (mkRows code shape p r names names.length)) :=
  rows_any code shape p r names W.heap.size c _ h0 h1 hn (by simp) fun j hj => by
    rw [World.cell?_alloc_at _ _ _ _ rfl]
    exact strs_at names A hA j hj
def RelA (w : World) (n : Nat) (L : List (Int × Info)) (v : Value) (wr : World) : Prop := L.length = n ∧ wr.ownsRow w.heap.size 79 5 v n (rowsV L) ∧ Below w.heap.size w wr
theorem relA_call {w wr w1 : World} {n : Nat} {L : List (Int × Info)} {u : Value} (h : RelA w n L u wr) (o : Obj) (hb : Below (wr.alloc o).heap.size (wr.alloc o) w1) : RelA w n L u w1 :=
  ⟨h.1, ownsRow_later (h.2.1.alloc o) hb, (h.2.2.alloc h.2.2.size o).trans (hb.mono (by have := h.2.2.size; simp; omega))⟩
theorem relA_quiet {w wr w1 : World} {n : Nat} {L : List (Int × Info)} {u : Value} (h : RelA w n L u wr) (hb : Below wr.heap.size wr w1) : RelA w n L u w1 :=
  ⟨h.1, ownsRow_later h.2.1 hb, h.2.2.trans (hb.mono h.2.2.size)⟩
theorem relA_app {w w1 w2 : World} {n m N : Nat} {L R : List (Int × Info)} {u v2 : Value} (h : RelA w n L u w1) (hm : R.length = m) (hN : N = n + m) (o2 : w2.ownsRow w.heap.size 79 5 v2 (n + m) (rowsV L ++ rowsV R)) (g : w1.grownBy w2 u.ownBlock) : RelA w N (L ++ R) v2 w2 := by
  subst hN
  refine ⟨by rw [List.length_append, h.1, hm], ?_, h.2.2.grown g h.2.2.size (fun k hk => (h.2.1.lt k hk).1)⟩
  rw [show rowsV (L ++ R) = rowsV L ++ rowsV R by simp [rowsV]]
  exact o2
theorem row_slice {w : World} {B n : Nat} {v : Value} {xs : List Value} (h : w.ownsRow B 79 5 v n xs) (hn : 0 < n) : ∃ g cap, v = .slice (some ⟨g, 0, none⟩) n cap ∧ ∀ j u, xs[j]? = some u → w.cell? ((⟨g, 0, none⟩ : Addr).add j) = some u := by
  rcases h.2 with ⟨_, h0⟩ | ⟨g, cap, cur, rfl, _⟩
  · omega
  · exact ⟨g, cap, rfl, h.cells rfl⟩
theorem rowsV_len (l : List (Int × Info)) : (rowsV l).length = l.length * 5 := by
  induction l with
  | nil => rfl
  | cons a l ih => simp only [rowsV, List.flatMap_cons, List.length_append, List.length_cons] at *; simp [rowV, ih]; omega
theorem rowsV_one (l : List (Int × Info)) : ∀ u ∈ rowsV l, u.oneCell' = true := by
  intro u hu
  obtain ⟨e, _, he⟩ := List.mem_flatMap.1 hu
  exact one_rowV e u he
def part0 : List (Int × Info) := mkRows 0 0 ⟨#[]⟩ ⟨#[]⟩ [⟨#[117, 110, 114, 101, 97, 99, 104, 97, 98, 108, 101]⟩, ⟨#[110, 111, 112]⟩] 2
theorem part0_len : part0.length = 2 := mkRows_len _ _ _ _ _ _
def part1 : List (Int × Info) := mkRows 2 1 ⟨#[]⟩ ⟨#[]⟩ [⟨#[98, 108, 111, 99, 107]⟩, ⟨#[108, 111, 111, 112]⟩, ⟨#[105, 102]⟩] 3
theorem part1_len : part1.length = 3 := mkRows_len _ _ _ _ _ _
def part2 : List (Int × Info) := mkRows 5 0 ⟨#[]⟩ ⟨#[]⟩ [⟨#[101, 108, 115, 101]⟩] 1
theorem part2_len : part2.length = 1 := mkRows_len _ _ _ _ _ _
def part3 : List (Int × Info) := mkRows 11 0 ⟨#[]⟩ ⟨#[]⟩ [⟨#[101, 110, 100]⟩] 1
theorem part3_len : part3.length = 1 := mkRows_len _ _ _ _ _ _
def part4 : List (Int × Info) := mkRows 12 2 ⟨#[]⟩ ⟨#[]⟩ [⟨#[98, 114]⟩, ⟨#[98, 114, 95, 105, 102]⟩] 2
theorem part4_len : part4.length = 2 := mkRows_len _ _ _ _ _ _
def part5 : List (Int × Info) := mkRows 14 3 ⟨#[]⟩ ⟨#[]⟩ [⟨#[98, 114, 95, 116, 97, 98, 108, 101]⟩] 1
theorem part5_len : part5.length = 1 := mkRows_len _ _ _ _ _ _
def part6 : List (Int × Info) := mkRows 15 0 ⟨#[]⟩ ⟨#[]⟩ [⟨#[114, 101, 116, 117, 114, 110]⟩] 1
theorem part6_len : part6.length = 1 := mkRows_len _ _ _ _ _ _
def part7 : List (Int × Info) := mkRows 16 4 ⟨#[]⟩ ⟨#[]⟩ [⟨#[99, 97, 108, 108]⟩] 1
theorem part7_len : part7.length = 1 := mkRows_len _ _ _ _ _ _
def part8 : List (Int × Info) := mkRows 26 0 ⟨#[]⟩ ⟨#[]⟩ [⟨#[100, 114, 111, 112]⟩, ⟨#[115, 101, 108, 101, 99, 116]⟩] 2
theorem part8_len : part8.length = 2 := mkRows_len _ _ _ _ _ _
def part9 : List (Int × Info) := mkRows 32 4 ⟨#[]⟩ ⟨#[]⟩ [⟨#[108, 111, 99, 97, 108, 46, 103, 101, 116]⟩, ⟨#[108, 111, 99, 97, 108, 46, 115, 101, 116]⟩, ⟨#[108, 111, 99, 97, 108, 46, 116, 101, 101]⟩, ⟨#[103, 108, 111, 98, 97, 108, 46, 103, 101, 116]⟩, ⟨#[103, 108, 111, 98, 97, 108, 46, 115, 101, 116]⟩] 5
theorem part9_len : part9.length = 5 := mkRows_len _ _ _ _ _ _
def part10 : List (Int × Info) := mkRows 40 5 ⟨#[127]⟩ ⟨#[127]⟩ [⟨#[105, 51, 50, 46, 108, 111, 97, 100]⟩] 1
theorem part10_len : part10.length = 1 := mkRows_len _ _ _ _ _ _
def part11 : List (Int × Info) := mkRows 41 5 ⟨#[127]⟩ ⟨#[126]⟩ [⟨#[105, 54, 52, 46, 108, 111, 97, 100]⟩] 1
theorem part11_len : part11.length = 1 := mkRows_len _ _ _ _ _ _
def part12 : List (Int × Info) := mkRows 44 5 ⟨#[127]⟩ ⟨#[127]⟩ [⟨#[105, 51, 50, 46, 108, 111, 97, 100, 56, 95, 115]⟩, ⟨#[105, 51, 50, 46, 108, 111, 97, 100, 56, 95, 117]⟩, ⟨#[105, 51, 50, 46, 108, 111, 97, 100, 49, 54, 95, 115]⟩, ⟨#[105, 51, 50, 46, 108, 111, 97, 100, 49, 54, 95, 117]⟩] 4
theorem part12_len : part12.length = 4 := mkRows_len _ _ _ _ _ _
def part13 : List (Int × Info) := mkRows 48 5 ⟨#[127]⟩ ⟨#[126]⟩ [⟨#[105, 54, 52, 46, 108, 111, 97, 100, 56, 95, 115]⟩, ⟨#[105, 54, 52, 46, 108, 111, 97, 100, 56, 95, 117]⟩, ⟨#[105, 54, 52, 46, 108, 111, 97, 100, 49, 54, 95, 115]⟩, ⟨#[105, 54, 52, 46, 108, 111, 97, 100, 49, 54, 95, 117]⟩, ⟨#[105, 54, 52, 46, 108, 111, 97, 100, 51, 50, 95, 115]⟩, ⟨#[105, 54, 52, 46, 108, 111, 97, 100, 51, 50, 95, 117]⟩] 6
theorem part13_len : part13.length = 6 := mkRows_len _ _ _ _ _ _
def part14 : List (Int × Info) := mkRows 54 5 ⟨#[127, 127]⟩ ⟨#[]⟩ [⟨#[105, 51, 50, 46, 115, 116, 111, 114, 101]⟩] 1
theorem part14_len : part14.length = 1 := mkRows_len _ _ _ _ _ _
def part15 : List (Int × Info) := mkRows 55 5 ⟨#[127, 126]⟩ ⟨#[]⟩ [⟨#[105, 54, 52, 46, 115, 116, 111, 114, 101]⟩] 1
theorem part15_len : part15.length = 1 := mkRows_len _ _ _ _ _ _
def part16 : List (Int × Info) := mkRows 58 5 ⟨#[127, 127]⟩ ⟨#[]⟩ [⟨#[105, 51, 50, 46, 115, 116, 111, 114, 101, 56]⟩, ⟨#[105, 51, 50, 46, 115, 116, 111, 114, 101, 49, 54]⟩] 2
theorem part16_len : part16.length = 2 := mkRows_len _ _ _ _ _ _
def part17 : List (Int × Info) := mkRows 60 5 ⟨#[127, 126]⟩ ⟨#[]⟩ [⟨#[105, 54, 52, 46, 115, 116, 111, 114, 101, 56]⟩, ⟨#[105, 54, 52, 46, 115, 116, 111, 114, 101, 49, 54]⟩, ⟨#[105, 54, 52, 46, 115, 116, 111, 114, 101, 51, 50]⟩] 3
theorem part17_len : part17.length = 3 := mkRows_len _ _ _ _ _ _
def part18 : List (Int × Info) := mkRows 63 6 ⟨#[]⟩ ⟨#[127]⟩ [⟨#[109, 101, 109, 111, 114, 121, 46, 115, 105, 122, 101]⟩] 1
theorem part18_len : part18.length = 1 := mkRows_len _ _ _ _ _ _
def part19 : List (Int × Info) := mkRows 64 6 ⟨#[127]⟩ ⟨#[127]⟩ [⟨#[109, 101, 109, 111, 114, 121, 46, 103, 114, 111, 119]⟩] 1
theorem part19_len : part19.length = 1 := mkRows_len _ _ _ _ _ _
def part20 : List (Int × Info) := mkRows 65 7 ⟨#[]⟩ ⟨#[127]⟩ [⟨#[105, 51, 50, 46, 99, 111, 110, 115, 116]⟩] 1
theorem part20_len : part20.length = 1 := mkRows_len _ _ _ _ _ _
def part21 : List (Int × Info) := mkRows 66 7 ⟨#[]⟩ ⟨#[126]⟩ [⟨#[105, 54, 52, 46, 99, 111, 110, 115, 116]⟩] 1
theorem part21_len : part21.length = 1 := mkRows_len _ _ _ _ _ _
def part22 : List (Int × Info) := numRows ⟨#[105, 51, 50, 46]⟩ ⟨#[127]⟩ 69 103 10 18
theorem part22_len : part22.length = 29 := numRows_len _ _ _ _ _ _
def part23 : List (Int × Info) := numRows ⟨#[105, 54, 52, 46]⟩ ⟨#[126]⟩ 80 121 10 18
theorem part23_len : part23.length = 29 := numRows_len _ _ _ _ _ _
def part24 : List (Int × Info) := mkRows 167 0 ⟨#[126]⟩ ⟨#[127]⟩ [⟨#[105, 51, 50, 46, 119, 114, 97, 112, 95, 105, 54, 52]⟩] 1
theorem part24_len : part24.length = 1 := mkRows_len _ _ _ _ _ _
def part25 : List (Int × Info) := mkRows 172 0 ⟨#[127]⟩ ⟨#[126]⟩ [⟨#[105, 54, 52, 46, 101, 120, 116, 101, 110, 100, 95, 105, 51, 50, 95, 115]⟩, ⟨#[105, 54, 52, 46, 101, 120, 116, 101, 110, 100, 95, 105, 51, 50, 95, 117]⟩] 2
theorem part25_len : part25.length = 2 := mkRows_len _ _ _ _ _ _
def refL : List (Int × Info) := (((((((((((((((((((((((((([] ++ part0) ++ part1) ++ part2) ++ part3) ++ part4) ++ part5) ++ part6) ++ part7) ++ part8) ++ part9) ++ part10) ++ part11) ++ part12) ++ part13) ++ part14) ++ part15) ++ part16) ++ part17) ++ part18) ++ part19) ++ part20) ++ part21) ++ part22) ++ part23) ++ part24) ++ part25)
set_option maxRecDepth 100000 in
set_option maxHeartbeats 4000000 in
theorem rall_any (w : World) :
    Calls Tryd.prog 37 #[] w (MadeRows w refL) := by
  obtain ⟨i0, hi, hz0, hz1, hz2⟩ := info_row_parts
  have hR := Lib.hid (show RelA w 0 [] (.slice none 0 0) w from ⟨rfl, World.ownsRow_nil _ _ _ _, Below.refl _ _⟩)
  go_enter Tryd.func37, Tryd.ntmps37
  go_wp2_with fail
  refine (rows_new 0 0 ⟨#[]⟩ ⟨#[]⟩ [⟨#[117, 110, 114, 101, 97, 99, 104, 97, 98, 108, 101]⟩, ⟨#[110, 111, 112]⟩] _ rfl _ 2 (by decide) (by decide) (by decide)).mono ?_
  rintro e w1 ⟨v, rfl, ho, hb⟩
  change w1.ownsRow _ 79 5 v part0.length (rowsV part0) at ho
  have hR1 := relA_call hR.out _ hb
  rw [part0_len] at ho
  obtain ⟨g, cap, rfl, hcs⟩ := row_slice ho (by decide)
  have HCS := Lib.hid hcs
  clear ho hb hcs hR
  go_wp2_with (at_builtin; refine wpList_append_own _ rfl _ _ 76 rfl w.heap.size 79 i0 zeroRow 5 64 Tryd.underlying76 hi hz0 hz1 hz2 rfl (by decide) _ _ _ rfl hR1.2.1 ⟨g, 0, none⟩ 2 cap (rowsV part0) rfl (by rw [rowsV_len, part0_len]) HCS.out (rowsV_one _) (by decide) (by decide) hR1.2.2.size ?_)
  intro v2 w2 o2 g2 _
  have hR := Lib.hid (relA_app (N := 2) hR1 part0_len rfl o2 g2)
  clear o2 g2 hR1 HCS
  go_wp2_with fail
  refine (rows_new 2 1 ⟨#[]⟩ ⟨#[]⟩ [⟨#[98, 108, 111, 99, 107]⟩, ⟨#[108, 111, 111, 112]⟩, ⟨#[105, 102]⟩] _ rfl _ 3 (by decide) (by decide) (by decide)).mono ?_
  rintro e w1 ⟨v, rfl, ho, hb⟩
  change w1.ownsRow _ 79 5 v part1.length (rowsV part1) at ho
  have hR1 := relA_call hR.out _ hb
  rw [part1_len] at ho
  obtain ⟨g, cap, rfl, hcs⟩ := row_slice ho (by decide)
  have HCS := Lib.hid hcs
  clear ho hb hcs hR
  go_wp2_with (at_builtin; refine wpList_append_own _ rfl _ _ 76 rfl w.heap.size 79 i0 zeroRow 5 64 Tryd.underlying76 hi hz0 hz1 hz2 rfl (by decide) _ _ _ rfl hR1.2.1 ⟨g, 0, none⟩ 3 cap (rowsV part1) rfl (by rw [rowsV_len, part1_len]) HCS.out (rowsV_one _) (by decide) (by decide) hR1.2.2.size ?_)
  intro v2 w2 o2 g2 _
  have hR := Lib.hid (relA_app (N := 5) hR1 part1_len rfl o2 g2)
  clear o2 g2 hR1 HCS
  go_wp2_with fail
  refine (rows_new 5 0 ⟨#[]⟩ ⟨#[]⟩ [⟨#[101, 108, 115, 101]⟩] _ rfl _ 1 (by decide) (by decide) (by decide)).mono ?_
  rintro e w1 ⟨v, rfl, ho, hb⟩
  change w1.ownsRow _ 79 5 v part2.length (rowsV part2) at ho
  have hR1 := relA_call hR.out _ hb
  rw [part2_len] at ho
  obtain ⟨g, cap, rfl, hcs⟩ := row_slice ho (by decide)
  have HCS := Lib.hid hcs
  clear ho hb hcs hR
  go_wp2_with (at_builtin; refine wpList_append_own _ rfl _ _ 76 rfl w.heap.size 79 i0 zeroRow 5 64 Tryd.underlying76 hi hz0 hz1 hz2 rfl (by decide) _ _ _ rfl hR1.2.1 ⟨g, 0, none⟩ 1 cap (rowsV part2) rfl (by rw [rowsV_len, part2_len]) HCS.out (rowsV_one _) (by decide) (by decide) hR1.2.2.size ?_)
  intro v2 w2 o2 g2 _
  have hR := Lib.hid (relA_app (N := 6) hR1 part2_len rfl o2 g2)
  clear o2 g2 hR1 HCS
  go_wp2_with fail
  refine (rows_new 11 0 ⟨#[]⟩ ⟨#[]⟩ [⟨#[101, 110, 100]⟩] _ rfl _ 1 (by decide) (by decide) (by decide)).mono ?_
  rintro e w1 ⟨v, rfl, ho, hb⟩
  change w1.ownsRow _ 79 5 v part3.length (rowsV part3) at ho
  have hR1 := relA_call hR.out _ hb
  rw [part3_len] at ho
  obtain ⟨g, cap, rfl, hcs⟩ := row_slice ho (by decide)
  have HCS := Lib.hid hcs
  clear ho hb hcs hR
  go_wp2_with (at_builtin; refine wpList_append_own _ rfl _ _ 76 rfl w.heap.size 79 i0 zeroRow 5 64 Tryd.underlying76 hi hz0 hz1 hz2 rfl (by decide) _ _ _ rfl hR1.2.1 ⟨g, 0, none⟩ 1 cap (rowsV part3) rfl (by rw [rowsV_len, part3_len]) HCS.out (rowsV_one _) (by decide) (by decide) hR1.2.2.size ?_)
  intro v2 w2 o2 g2 _
  have hR := Lib.hid (relA_app (N := 7) hR1 part3_len rfl o2 g2)
  clear o2 g2 hR1 HCS
  go_wp2_with fail
  refine (rows_new 12 2 ⟨#[]⟩ ⟨#[]⟩ [⟨#[98, 114]⟩, ⟨#[98, 114, 95, 105, 102]⟩] _ rfl _ 2 (by decide) (by decide) (by decide)).mono ?_
  rintro e w1 ⟨v, rfl, ho, hb⟩
  change w1.ownsRow _ 79 5 v part4.length (rowsV part4) at ho
  have hR1 := relA_call hR.out _ hb
  rw [part4_len] at ho
  obtain ⟨g, cap, rfl, hcs⟩ := row_slice ho (by decide)
  have HCS := Lib.hid hcs
  clear ho hb hcs hR
  go_wp2_with (at_builtin; refine wpList_append_own _ rfl _ _ 76 rfl w.heap.size 79 i0 zeroRow 5 64 Tryd.underlying76 hi hz0 hz1 hz2 rfl (by decide) _ _ _ rfl hR1.2.1 ⟨g, 0, none⟩ 2 cap (rowsV part4) rfl (by rw [rowsV_len, part4_len]) HCS.out (rowsV_one _) (by decide) (by decide) hR1.2.2.size ?_)
  intro v2 w2 o2 g2 _
  have hR := Lib.hid (relA_app (N := 9) hR1 part4_len rfl o2 g2)
  clear o2 g2 hR1 HCS
  go_wp2_with fail
  refine (rows_new 14 3 ⟨#[]⟩ ⟨#[]⟩ [⟨#[98, 114, 95, 116, 97, 98, 108, 101]⟩] _ rfl _ 1 (by decide) (by decide) (by decide)).mono ?_
  rintro e w1 ⟨v, rfl, ho, hb⟩
  change w1.ownsRow _ 79 5 v part5.length (rowsV part5) at ho
  have hR1 := relA_call hR.out _ hb
  rw [part5_len] at ho
  obtain ⟨g, cap, rfl, hcs⟩ := row_slice ho (by decide)
  have HCS := Lib.hid hcs
  clear ho hb hcs hR
  go_wp2_with (at_builtin; refine wpList_append_own _ rfl _ _ 76 rfl w.heap.size 79 i0 zeroRow 5 64 Tryd.underlying76 hi hz0 hz1 hz2 rfl (by decide) _ _ _ rfl hR1.2.1 ⟨g, 0, none⟩ 1 cap (rowsV part5) rfl (by rw [rowsV_len, part5_len]) HCS.out (rowsV_one _) (by decide) (by decide) hR1.2.2.size ?_)
  intro v2 w2 o2 g2 _
  have hR := Lib.hid (relA_app (N := 10) hR1 part5_len rfl o2 g2)
  clear o2 g2 hR1 HCS
  go_wp2_with fail
  refine (rows_new 15 0 ⟨#[]⟩ ⟨#[]⟩ [⟨#[114, 101, 116, 117, 114, 110]⟩] _ rfl _ 1 (by decide) (by decide) (by decide)).mono ?_
  rintro e w1 ⟨v, rfl, ho, hb⟩
  change w1.ownsRow _ 79 5 v part6.length (rowsV part6) at ho
  have hR1 := relA_call hR.out _ hb
  rw [part6_len] at ho
  obtain ⟨g, cap, rfl, hcs⟩ := row_slice ho (by decide)
  have HCS := Lib.hid hcs
  clear ho hb hcs hR
  go_wp2_with (at_builtin; refine wpList_append_own _ rfl _ _ 76 rfl w.heap.size 79 i0 zeroRow 5 64 Tryd.underlying76 hi hz0 hz1 hz2 rfl (by decide) _ _ _ rfl hR1.2.1 ⟨g, 0, none⟩ 1 cap (rowsV part6) rfl (by rw [rowsV_len, part6_len]) HCS.out (rowsV_one _) (by decide) (by decide) hR1.2.2.size ?_)
  intro v2 w2 o2 g2 _
  have hR := Lib.hid (relA_app (N := 11) hR1 part6_len rfl o2 g2)
  clear o2 g2 hR1 HCS
  go_wp2_with fail
  refine (rows_new 16 4 ⟨#[]⟩ ⟨#[]⟩ [⟨#[99, 97, 108, 108]⟩] _ rfl _ 1 (by decide) (by decide) (by decide)).mono ?_
  rintro e w1 ⟨v, rfl, ho, hb⟩
  change w1.ownsRow _ 79 5 v part7.length (rowsV part7) at ho
  have hR1 := relA_call hR.out _ hb
  rw [part7_len] at ho
  obtain ⟨g, cap, rfl, hcs⟩ := row_slice ho (by decide)
  have HCS := Lib.hid hcs
  clear ho hb hcs hR
  go_wp2_with (at_builtin; refine wpList_append_own _ rfl _ _ 76 rfl w.heap.size 79 i0 zeroRow 5 64 Tryd.underlying76 hi hz0 hz1 hz2 rfl (by decide) _ _ _ rfl hR1.2.1 ⟨g, 0, none⟩ 1 cap (rowsV part7) rfl (by rw [rowsV_len, part7_len]) HCS.out (rowsV_one _) (by decide) (by decide) hR1.2.2.size ?_)
  intro v2 w2 o2 g2 _
  have hR := Lib.hid (relA_app (N := 12) hR1 part7_len rfl o2 g2)
  clear o2 g2 hR1 HCS
  go_wp2_with fail
  refine (rows_new 26 0 ⟨#[]⟩ ⟨#[]⟩ [⟨#[100, 114, 111, 112]⟩, ⟨#[115, 101, 108, 101, 99, 116]⟩] _ rfl _ 2 (by decide) (by decide) (by decide)).mono ?_
  rintro e w1 ⟨v, rfl, ho, hb⟩
  change w1.ownsRow _ 79 5 v part8.length (rowsV part8) at ho
  have hR1 := relA_call hR.out _ hb
  rw [part8_len] at ho
  obtain ⟨g, cap, rfl, hcs⟩ := row_slice ho (by decide)
  have HCS := Lib.hid hcs
  clear ho hb hcs hR
  go_wp2_with (at_builtin; refine wpList_append_own _ rfl _ _ 76 rfl w.heap.size 79 i0 zeroRow 5 64 Tryd.underlying76 hi hz0 hz1 hz2 rfl (by decide) _ _ _ rfl hR1.2.1 ⟨g, 0, none⟩ 2 cap (rowsV part8) rfl (by rw [rowsV_len, part8_len]) HCS.out (rowsV_one _) (by decide) (by decide) hR1.2.2.size ?_)
  intro v2 w2 o2 g2 _
  have hR := Lib.hid (relA_app (N := 14) hR1 part8_len rfl o2 g2)
  clear o2 g2 hR1 HCS
  go_wp2_with fail
  refine (rows_new 32 4 ⟨#[]⟩ ⟨#[]⟩ [⟨#[108, 111, 99, 97, 108, 46, 103, 101, 116]⟩, ⟨#[108, 111, 99, 97, 108, 46, 115, 101, 116]⟩, ⟨#[108, 111, 99, 97, 108, 46, 116, 101, 101]⟩, ⟨#[103, 108, 111, 98, 97, 108, 46, 103, 101, 116]⟩, ⟨#[103, 108, 111, 98, 97, 108, 46, 115, 101, 116]⟩] _ rfl _ 5 (by decide) (by decide) (by decide)).mono ?_
  rintro e w1 ⟨v, rfl, ho, hb⟩
  change w1.ownsRow _ 79 5 v part9.length (rowsV part9) at ho
  have hR1 := relA_call hR.out _ hb
  rw [part9_len] at ho
  obtain ⟨g, cap, rfl, hcs⟩ := row_slice ho (by decide)
  have HCS := Lib.hid hcs
  clear ho hb hcs hR
  go_wp2_with (at_builtin; refine wpList_append_own _ rfl _ _ 76 rfl w.heap.size 79 i0 zeroRow 5 64 Tryd.underlying76 hi hz0 hz1 hz2 rfl (by decide) _ _ _ rfl hR1.2.1 ⟨g, 0, none⟩ 5 cap (rowsV part9) rfl (by rw [rowsV_len, part9_len]) HCS.out (rowsV_one _) (by decide) (by decide) hR1.2.2.size ?_)
  intro v2 w2 o2 g2 _
  have hR := Lib.hid (relA_app (N := 19) hR1 part9_len rfl o2 g2)
  clear o2 g2 hR1 HCS
  go_wp2_with fail
  refine (rows_new 40 5 ⟨#[127]⟩ ⟨#[127]⟩ [⟨#[105, 51, 50, 46, 108, 111, 97, 100]⟩] _ rfl _ 1 (by decide) (by decide) (by decide)).mono ?_
  rintro e w1 ⟨v, rfl, ho, hb⟩
  change w1.ownsRow _ 79 5 v part10.length (rowsV part10) at ho
  have hR1 := relA_call hR.out _ hb
  rw [part10_len] at ho
  obtain ⟨g, cap, rfl, hcs⟩ := row_slice ho (by decide)
  have HCS := Lib.hid hcs
  clear ho hb hcs hR
  go_wp2_with (at_builtin; refine wpList_append_own _ rfl _ _ 76 rfl w.heap.size 79 i0 zeroRow 5 64 Tryd.underlying76 hi hz0 hz1 hz2 rfl (by decide) _ _ _ rfl hR1.2.1 ⟨g, 0, none⟩ 1 cap (rowsV part10) rfl (by rw [rowsV_len, part10_len]) HCS.out (rowsV_one _) (by decide) (by decide) hR1.2.2.size ?_)
  intro v2 w2 o2 g2 _
  have hR := Lib.hid (relA_app (N := 20) hR1 part10_len rfl o2 g2)
  clear o2 g2 hR1 HCS
  go_wp2_with fail
  refine (rows_new 41 5 ⟨#[127]⟩ ⟨#[126]⟩ [⟨#[105, 54, 52, 46, 108, 111, 97, 100]⟩] _ rfl _ 1 (by decide) (by decide) (by decide)).mono ?_
  rintro e w1 ⟨v, rfl, ho, hb⟩
  change w1.ownsRow _ 79 5 v part11.length (rowsV part11) at ho
  have hR1 := relA_call hR.out _ hb
  rw [part11_len] at ho
  obtain ⟨g, cap, rfl, hcs⟩ := row_slice ho (by decide)
  have HCS := Lib.hid hcs
  clear ho hb hcs hR
  go_wp2_with (at_builtin; refine wpList_append_own _ rfl _ _ 76 rfl w.heap.size 79 i0 zeroRow 5 64 Tryd.underlying76 hi hz0 hz1 hz2 rfl (by decide) _ _ _ rfl hR1.2.1 ⟨g, 0, none⟩ 1 cap (rowsV part11) rfl (by rw [rowsV_len, part11_len]) HCS.out (rowsV_one _) (by decide) (by decide) hR1.2.2.size ?_)
  intro v2 w2 o2 g2 _
  have hR := Lib.hid (relA_app (N := 21) hR1 part11_len rfl o2 g2)
  clear o2 g2 hR1 HCS
  go_wp2_with fail
  refine (rows_new 44 5 ⟨#[127]⟩ ⟨#[127]⟩ [⟨#[105, 51, 50, 46, 108, 111, 97, 100, 56, 95, 115]⟩, ⟨#[105, 51, 50, 46, 108, 111, 97, 100, 56, 95, 117]⟩, ⟨#[105, 51, 50, 46, 108, 111, 97, 100, 49, 54, 95, 115]⟩, ⟨#[105, 51, 50, 46, 108, 111, 97, 100, 49, 54, 95, 117]⟩] _ rfl _ 4 (by decide) (by decide) (by decide)).mono ?_
  rintro e w1 ⟨v, rfl, ho, hb⟩
  change w1.ownsRow _ 79 5 v part12.length (rowsV part12) at ho
  have hR1 := relA_call hR.out _ hb
  rw [part12_len] at ho
  obtain ⟨g, cap, rfl, hcs⟩ := row_slice ho (by decide)
  have HCS := Lib.hid hcs
  clear ho hb hcs hR
  go_wp2_with (at_builtin; refine wpList_append_own _ rfl _ _ 76 rfl w.heap.size 79 i0 zeroRow 5 64 Tryd.underlying76 hi hz0 hz1 hz2 rfl (by decide) _ _ _ rfl hR1.2.1 ⟨g, 0, none⟩ 4 cap (rowsV part12) rfl (by rw [rowsV_len, part12_len]) HCS.out (rowsV_one _) (by decide) (by decide) hR1.2.2.size ?_)
  intro v2 w2 o2 g2 _
  have hR := Lib.hid (relA_app (N := 25) hR1 part12_len rfl o2 g2)
  clear o2 g2 hR1 HCS
  go_wp2_with fail
  refine (rows_new 48 5 ⟨#[127]⟩ ⟨#[126]⟩ [⟨#[105, 54, 52, 46, 108, 111, 97, 100, 56, 95, 115]⟩, ⟨#[105, 54, 52, 46, 108, 111, 97, 100, 56, 95, 117]⟩, ⟨#[105, 54, 52, 46, 108, 111, 97, 100, 49, 54, 95, 115]⟩, ⟨#[105, 54, 52, 46, 108, 111, 97, 100, 49, 54, 95, 117]⟩, ⟨#[105, 54, 52, 46, 108, 111, 97, 100, 51, 50, 95, 115]⟩, ⟨#[105, 54, 52, 46, 108, 111, 97, 100, 51, 50, 95, 117]⟩] _ rfl _ 6 (by decide) (by decide) (by decide)).mono ?_
  rintro e w1 ⟨v, rfl, ho, hb⟩
  change w1.ownsRow _ 79 5 v part13.length (rowsV part13) at ho
  have hR1 := relA_call hR.out _ hb
  rw [part13_len] at ho
  obtain ⟨g, cap, rfl, hcs⟩ := row_slice ho (by decide)
  have HCS := Lib.hid hcs
  clear ho hb hcs hR
  go_wp2_with (at_builtin; refine wpList_append_own _ rfl _ _ 76 rfl w.heap.size 79 i0 zeroRow 5 64 Tryd.underlying76 hi hz0 hz1 hz2 rfl (by decide) _ _ _ rfl hR1.2.1 ⟨g, 0, none⟩ 6 cap (rowsV part13) rfl (by rw [rowsV_len, part13_len]) HCS.out (rowsV_one _) (by decide) (by decide) hR1.2.2.size ?_)
  intro v2 w2 o2 g2 _
  have hR := Lib.hid (relA_app (N := 31) hR1 part13_len rfl o2 g2)
  clear o2 g2 hR1 HCS
  go_wp2_with fail
  refine (rows_new 54 5 ⟨#[127, 127]⟩ ⟨#[]⟩ [⟨#[105, 51, 50, 46, 115, 116, 111, 114, 101]⟩] _ rfl _ 1 (by decide) (by decide) (by decide)).mono ?_
  rintro e w1 ⟨v, rfl, ho, hb⟩
  change w1.ownsRow _ 79 5 v part14.length (rowsV part14) at ho
  have hR1 := relA_call hR.out _ hb
  rw [part14_len] at ho
  obtain ⟨g, cap, rfl, hcs⟩ := row_slice ho (by decide)
  have HCS := Lib.hid hcs
  clear ho hb hcs hR
  go_wp2_with (at_builtin; refine wpList_append_own _ rfl _ _ 76 rfl w.heap.size 79 i0 zeroRow 5 64 Tryd.underlying76 hi hz0 hz1 hz2 rfl (by decide) _ _ _ rfl hR1.2.1 ⟨g, 0, none⟩ 1 cap (rowsV part14) rfl (by rw [rowsV_len, part14_len]) HCS.out (rowsV_one _) (by decide) (by decide) hR1.2.2.size ?_)
  intro v2 w2 o2 g2 _
  have hR := Lib.hid (relA_app (N := 32) hR1 part14_len rfl o2 g2)
  clear o2 g2 hR1 HCS
  go_wp2_with fail
  refine (rows_new 55 5 ⟨#[127, 126]⟩ ⟨#[]⟩ [⟨#[105, 54, 52, 46, 115, 116, 111, 114, 101]⟩] _ rfl _ 1 (by decide) (by decide) (by decide)).mono ?_
  rintro e w1 ⟨v, rfl, ho, hb⟩
  change w1.ownsRow _ 79 5 v part15.length (rowsV part15) at ho
  have hR1 := relA_call hR.out _ hb
  rw [part15_len] at ho
  obtain ⟨g, cap, rfl, hcs⟩ := row_slice ho (by decide)
  have HCS := Lib.hid hcs
  clear ho hb hcs hR
  go_wp2_with (at_builtin; refine wpList_append_own _ rfl _ _ 76 rfl w.heap.size 79 i0 zeroRow 5 64 Tryd.underlying76 hi hz0 hz1 hz2 rfl (by decide) _ _ _ rfl hR1.2.1 ⟨g, 0, none⟩ 1 cap (rowsV part15) rfl (by rw [rowsV_len, part15_len]) HCS.out (rowsV_one _) (by decide) (by decide) hR1.2.2.size ?_)
  intro v2 w2 o2 g2 _
  have hR := Lib.hid (relA_app (N := 33) hR1 part15_len rfl o2 g2)
  clear o2 g2 hR1 HCS
  go_wp2_with fail
  refine (rows_new 58 5 ⟨#[127, 127]⟩ ⟨#[]⟩ [⟨#[105, 51, 50, 46, 115, 116, 111, 114, 101, 56]⟩, ⟨#[105, 51, 50, 46, 115, 116, 111, 114, 101, 49, 54]⟩] _ rfl _ 2 (by decide) (by decide) (by decide)).mono ?_
  rintro e w1 ⟨v, rfl, ho, hb⟩
  change w1.ownsRow _ 79 5 v part16.length (rowsV part16) at ho
  have hR1 := relA_call hR.out _ hb
  rw [part16_len] at ho
  obtain ⟨g, cap, rfl, hcs⟩ := row_slice ho (by decide)
  have HCS := Lib.hid hcs
  clear ho hb hcs hR
  go_wp2_with (at_builtin; refine wpList_append_own _ rfl _ _ 76 rfl w.heap.size 79 i0 zeroRow 5 64 Tryd.underlying76 hi hz0 hz1 hz2 rfl (by decide) _ _ _ rfl hR1.2.1 ⟨g, 0, none⟩ 2 cap (rowsV part16) rfl (by rw [rowsV_len, part16_len]) HCS.out (rowsV_one _) (by decide) (by decide) hR1.2.2.size ?_)
  intro v2 w2 o2 g2 _
  have hR := Lib.hid (relA_app (N := 35) hR1 part16_len rfl o2 g2)
  clear o2 g2 hR1 HCS
  go_wp2_with fail
  refine (rows_new 60 5 ⟨#[127, 126]⟩ ⟨#[]⟩ [⟨#[105, 54, 52, 46, 115, 116, 111, 114, 101, 56]⟩, ⟨#[105, 54, 52, 46, 115, 116, 111, 114, 101, 49, 54]⟩, ⟨#[105, 54, 52, 46, 115, 116, 111, 114, 101, 51, 50]⟩] _ rfl _ 3 (by decide) (by decide) (by decide)).mono ?_
  rintro e w1 ⟨v, rfl, ho, hb⟩
  change w1.ownsRow _ 79 5 v part17.length (rowsV part17) at ho
  have hR1 := relA_call hR.out _ hb
  rw [part17_len] at ho
  obtain ⟨g, cap, rfl, hcs⟩ := row_slice ho (by decide)
  have HCS := Lib.hid hcs
  clear ho hb hcs hR
  go_wp2_with (at_builtin; refine wpList_append_own _ rfl _ _ 76 rfl w.heap.size 79 i0 zeroRow 5 64 Tryd.underlying76 hi hz0 hz1 hz2 rfl (by decide) _ _ _ rfl hR1.2.1 ⟨g, 0, none⟩ 3 cap (rowsV part17) rfl (by rw [rowsV_len, part17_len]) HCS.out (rowsV_one _) (by decide) (by decide) hR1.2.2.size ?_)
  intro v2 w2 o2 g2 _
  have hR := Lib.hid (relA_app (N := 38) hR1 part17_len rfl o2 g2)
  clear o2 g2 hR1 HCS
  go_wp2_with fail
  refine (rows_new 63 6 ⟨#[]⟩ ⟨#[127]⟩ [⟨#[109, 101, 109, 111, 114, 121, 46, 115, 105, 122, 101]⟩] _ rfl _ 1 (by decide) (by decide) (by decide)).mono ?_
  rintro e w1 ⟨v, rfl, ho, hb⟩
  change w1.ownsRow _ 79 5 v part18.length (rowsV part18) at ho
  have hR1 := relA_call hR.out _ hb
  rw [part18_len] at ho
  obtain ⟨g, cap, rfl, hcs⟩ := row_slice ho (by decide)
  have HCS := Lib.hid hcs
  clear ho hb hcs hR
  go_wp2_with (at_builtin; refine wpList_append_own _ rfl _ _ 76 rfl w.heap.size 79 i0 zeroRow 5 64 Tryd.underlying76 hi hz0 hz1 hz2 rfl (by decide) _ _ _ rfl hR1.2.1 ⟨g, 0, none⟩ 1 cap (rowsV part18) rfl (by rw [rowsV_len, part18_len]) HCS.out (rowsV_one _) (by decide) (by decide) hR1.2.2.size ?_)
  intro v2 w2 o2 g2 _
  have hR := Lib.hid (relA_app (N := 39) hR1 part18_len rfl o2 g2)
  clear o2 g2 hR1 HCS
  go_wp2_with fail
  refine (rows_new 64 6 ⟨#[127]⟩ ⟨#[127]⟩ [⟨#[109, 101, 109, 111, 114, 121, 46, 103, 114, 111, 119]⟩] _ rfl _ 1 (by decide) (by decide) (by decide)).mono ?_
  rintro e w1 ⟨v, rfl, ho, hb⟩
  change w1.ownsRow _ 79 5 v part19.length (rowsV part19) at ho
  have hR1 := relA_call hR.out _ hb
  rw [part19_len] at ho
  obtain ⟨g, cap, rfl, hcs⟩ := row_slice ho (by decide)
  have HCS := Lib.hid hcs
  clear ho hb hcs hR
  go_wp2_with (at_builtin; refine wpList_append_own _ rfl _ _ 76 rfl w.heap.size 79 i0 zeroRow 5 64 Tryd.underlying76 hi hz0 hz1 hz2 rfl (by decide) _ _ _ rfl hR1.2.1 ⟨g, 0, none⟩ 1 cap (rowsV part19) rfl (by rw [rowsV_len, part19_len]) HCS.out (rowsV_one _) (by decide) (by decide) hR1.2.2.size ?_)
  intro v2 w2 o2 g2 _
  have hR := Lib.hid (relA_app (N := 40) hR1 part19_len rfl o2 g2)
  clear o2 g2 hR1 HCS
  go_wp2_with fail
  refine (rows_new 65 7 ⟨#[]⟩ ⟨#[127]⟩ [⟨#[105, 51, 50, 46, 99, 111, 110, 115, 116]⟩] _ rfl _ 1 (by decide) (by decide) (by decide)).mono ?_
  rintro e w1 ⟨v, rfl, ho, hb⟩
  change w1.ownsRow _ 79 5 v part20.length (rowsV part20) at ho
  have hR1 := relA_call hR.out _ hb
  rw [part20_len] at ho
  obtain ⟨g, cap, rfl, hcs⟩ := row_slice ho (by decide)
  have HCS := Lib.hid hcs
  clear ho hb hcs hR
  go_wp2_with (at_builtin; refine wpList_append_own _ rfl _ _ 76 rfl w.heap.size 79 i0 zeroRow 5 64 Tryd.underlying76 hi hz0 hz1 hz2 rfl (by decide) _ _ _ rfl hR1.2.1 ⟨g, 0, none⟩ 1 cap (rowsV part20) rfl (by rw [rowsV_len, part20_len]) HCS.out (rowsV_one _) (by decide) (by decide) hR1.2.2.size ?_)
  intro v2 w2 o2 g2 _
  have hR := Lib.hid (relA_app (N := 41) hR1 part20_len rfl o2 g2)
  clear o2 g2 hR1 HCS
  go_wp2_with fail
  refine (rows_new 66 7 ⟨#[]⟩ ⟨#[126]⟩ [⟨#[105, 54, 52, 46, 99, 111, 110, 115, 116]⟩] _ rfl _ 1 (by decide) (by decide) (by decide)).mono ?_
  rintro e w1 ⟨v, rfl, ho, hb⟩
  change w1.ownsRow _ 79 5 v part21.length (rowsV part21) at ho
  have hR1 := relA_call hR.out _ hb
  rw [part21_len] at ho
  obtain ⟨g, cap, rfl, hcs⟩ := row_slice ho (by decide)
  have HCS := Lib.hid hcs
  clear ho hb hcs hR
  go_wp2_with (at_builtin; refine wpList_append_own _ rfl _ _ 76 rfl w.heap.size 79 i0 zeroRow 5 64 Tryd.underlying76 hi hz0 hz1 hz2 rfl (by decide) _ _ _ rfl hR1.2.1 ⟨g, 0, none⟩ 1 cap (rowsV part21) rfl (by rw [rowsV_len, part21_len]) HCS.out (rowsV_one _) (by decide) (by decide) hR1.2.2.size ?_)
  intro v2 w2 o2 g2 _
  have hR := Lib.hid (relA_app (N := 42) hR1 part21_len rfl o2 g2)
  clear o2 g2 hR1 HCS
  go_wp2_with fail
  refine (rnumbers_t ⟨#[105, 51, 50, 46]⟩ ⟨#[127]⟩ 69 103 _ (by decide) (by decide) (by decide) (by decide) (by decide) (by decide)).mono ?_
  rintro e w1 ⟨v, rfl, ho, hb⟩
  change w1.ownsRow _ 79 5 v part22.length (rowsV part22) at ho
  have hR1 := relA_quiet hR.out hb
  rw [part22_len] at ho
  obtain ⟨g, cap, rfl, hcs⟩ := row_slice ho (by decide)
  have HCS := Lib.hid hcs
  clear ho hb hcs hR
  go_wp2_with (at_builtin; refine wpList_append_own _ rfl _ _ 76 rfl w.heap.size 79 i0 zeroRow 5 64 Tryd.underlying76 hi hz0 hz1 hz2 rfl (by decide) _ _ _ rfl hR1.2.1 ⟨g, 0, none⟩ 29 cap (rowsV part22) rfl (by rw [rowsV_len, part22_len]) HCS.out (rowsV_one _) (by decide) (by decide) hR1.2.2.size ?_)
  intro v2 w2 o2 g2 _
  have hR := Lib.hid (relA_app (N := 71) hR1 part22_len rfl o2 g2)
  clear o2 g2 hR1 HCS
  go_wp2_with fail
  refine (rnumbers_t ⟨#[105, 54, 52, 46]⟩ ⟨#[126]⟩ 80 121 _ (by decide) (by decide) (by decide) (by decide) (by decide) (by decide)).mono ?_
  rintro e w1 ⟨v, rfl, ho, hb⟩
  change w1.ownsRow _ 79 5 v part23.length (rowsV part23) at ho
  have hR1 := relA_quiet hR.out hb
  rw [part23_len] at ho
  obtain ⟨g, cap, rfl, hcs⟩ := row_slice ho (by decide)
  have HCS := Lib.hid hcs
  clear ho hb hcs hR
  go_wp2_with (at_builtin; refine wpList_append_own _ rfl _ _ 76 rfl w.heap.size 79 i0 zeroRow 5 64 Tryd.underlying76 hi hz0 hz1 hz2 rfl (by decide) _ _ _ rfl hR1.2.1 ⟨g, 0, none⟩ 29 cap (rowsV part23) rfl (by rw [rowsV_len, part23_len]) HCS.out (rowsV_one _) (by decide) (by decide) hR1.2.2.size ?_)
  intro v2 w2 o2 g2 _
  have hR := Lib.hid (relA_app (N := 100) hR1 part23_len rfl o2 g2)
  clear o2 g2 hR1 HCS
  go_wp2_with fail
  refine (rows_new 167 0 ⟨#[126]⟩ ⟨#[127]⟩ [⟨#[105, 51, 50, 46, 119, 114, 97, 112, 95, 105, 54, 52]⟩] _ rfl _ 1 (by decide) (by decide) (by decide)).mono ?_
  rintro e w1 ⟨v, rfl, ho, hb⟩
  change w1.ownsRow _ 79 5 v part24.length (rowsV part24) at ho
  have hR1 := relA_call hR.out _ hb
  rw [part24_len] at ho
  obtain ⟨g, cap, rfl, hcs⟩ := row_slice ho (by decide)
  have HCS := Lib.hid hcs
  clear ho hb hcs hR
  go_wp2_with (at_builtin; refine wpList_append_own _ rfl _ _ 76 rfl w.heap.size 79 i0 zeroRow 5 64 Tryd.underlying76 hi hz0 hz1 hz2 rfl (by decide) _ _ _ rfl hR1.2.1 ⟨g, 0, none⟩ 1 cap (rowsV part24) rfl (by rw [rowsV_len, part24_len]) HCS.out (rowsV_one _) (by decide) (by decide) hR1.2.2.size ?_)
  intro v2 w2 o2 g2 _
  have hR := Lib.hid (relA_app (N := 101) hR1 part24_len rfl o2 g2)
  clear o2 g2 hR1 HCS
  go_wp2_with fail
  refine (rows_new 172 0 ⟨#[127]⟩ ⟨#[126]⟩ [⟨#[105, 54, 52, 46, 101, 120, 116, 101, 110, 100, 95, 105, 51, 50, 95, 115]⟩, ⟨#[105, 54, 52, 46, 101, 120, 116, 101, 110, 100, 95, 105, 51, 50, 95, 117]⟩] _ rfl _ 2 (by decide) (by decide) (by decide)).mono ?_
  rintro e w1 ⟨v, rfl, ho, hb⟩
  change w1.ownsRow _ 79 5 v part25.length (rowsV part25) at ho
  have hR1 := relA_call hR.out _ hb
  rw [part25_len] at ho
  obtain ⟨g, cap, rfl, hcs⟩ := row_slice ho (by decide)
  have HCS := Lib.hid hcs
  clear ho hb hcs hR
  go_wp2_with (at_builtin; refine wpList_append_own _ rfl _ _ 76 rfl w.heap.size 79 i0 zeroRow 5 64 Tryd.underlying76 hi hz0 hz1 hz2 rfl (by decide) _ _ _ rfl hR1.2.1 ⟨g, 0, none⟩ 2 cap (rowsV part25) rfl (by rw [rowsV_len, part25_len]) HCS.out (rowsV_one _) (by decide) (by decide) hR1.2.2.size ?_)
  intro v2 w2 o2 g2 _
  have hR := Lib.hid (relA_app (N := 103) hR1 part25_len rfl o2 g2)
  clear o2 g2 hR1 HCS
  go_wp2_with fail
  go_ret
  obtain ⟨h1, h2, h3⟩ := hR.out
  refine ⟨_, rfl, ?_, h3⟩
  rw [show refL.length = 103 from h1]
  exact h2
end Go.Proofs.YtlbgbpgjccbbjaaDoor.Op
