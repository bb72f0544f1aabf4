/-
  The law of instructions that are read: the walk. No condition beyond what each theorem names.
-/
import Derived.Test.YteidhccnbfikcaaGreatDoorDeR
import Derived.Test.YteidhccnbfikcaaGreatDoorDeM
import Derived.Test.YteidhccnbfikcaaGreatDoorDeS
namespace Go.Proofs.YteidhccnbfikcaaGreatDoor.Dec
open Go.RowKit Go.Maps Go.ChangeShapes Go.WideShapes Go.Proofs.YteidhccnbfikcaaGreatDoor.Op Go.Proofs.YteidhccnbfikcaaGreatDoor.Mod Go.Proofs.YteidhccnbfikcaaGreatDoor.Leb Go.Proofs.YteidhccnbfikcaaGreatDoor.Enc
set_option linter.unusedVariables false
set_option linter.unusedSimpArgs false
set_option maxRecDepth 100000 in
set_option maxHeartbeats 4000000 in
/-- THE LAW -/
theorem instrs_law (s : ByteArray) (at_ : Int) (w : World) (hE : OpEnv w) (hs : s.size ≤ 1000000000000000) :
    Calls Tryz.prog 5 #[.string s, .int .i64 at_] w fun en w' => en = .returned (.bool true) ∧ Below w.heap.size w w' := by
  have HEX := Lib.hid (examples06 w hE)
  have HD := Lib.hid (fun (W : World) (hW : Below w.heap.size w W) => decI_any s at_ W (opEnv_later hE hW) hs)
  have HR := Lib.hid (fun (W : World) => rdecI_any s at_ W hs)
  obtain ⟨⟨Y, nx, er⟩, hY⟩ : ∃ A, decI s.data.toList at_ = A := ⟨_, rfl⟩
  rw [hY] at HD HR
  obtain ⟨yo, ya, yb, yl⟩ := Y
  have hss : sameIns ⟨yo, ya, yb, yl⟩ ⟨yo, ya, yb, yl⟩ = true := by unfold sameIns; simp
  have HSS := Lib.hid hss
  have hnn : (nx == nx) = true := by simp
  have hee : (er == er) = true := by simp
  clear hY hss hE hs
  go_enter Tryz.func5, Tryz.ntmps5
  go_wp2_with fail
  refine HEX.out.mono ?_
  rintro en w2 ⟨rfl, c2⟩
  have C2 := Lib.hid c2
  clear c2
  go_wp2_with fail
  refine (HD.out w2 C2.out).mono ?_
  rintro en w3 ⟨lv3, rfl, o3, l3, c3⟩
  obtain ⟨a3, b3, rfl⟩ := own_form o3.1
  dsimp only at o3 l3 ⊢
  have hlen : (cellsI yl).length = yl.length := by unfold cellsI; rw [List.length_map]
  rw [hlen] at o3 ⊢
  have C3 := Lib.hid (C2.out.trans (c3.mono C2.out.size))
  have HLL := Lib.hid l3
  have I3 := Lib.hid (ints_own o3 l3)
  clear c3 o3 l3
  go_upto_region 5 with fail
  obtain ⟨W4, hW4⟩ : ∃ W4, w3.alloc (.cells #[.int .i64 yo, .int .i64 ya, .int .i64 yb, .slice a3 yl.length b3] 33) = W4 := ⟨_, rfl⟩
  have b4 : Below w3.heap.size w3 W4 := by rw [← hW4]; exact (Below.refl _ _).alloc (Nat.le_refl _) _
  have row4 : W4.heap[w3.heap.size]? = some (.cells #[.int .i64 yo, .int .i64 ya, .int .i64 yb, .slice a3 yl.length b3] 33 (0, 0)) := by rw [← hW4]; exact heap_alloc_new _ _
  have x0 : W4.cell? ⟨w3.heap.size, 0, none⟩ = some (.int .i64 yo) := cell_of_row W4 _ 0 _ _ _ row4
  have x1 : W4.cell? ⟨w3.heap.size, 1, none⟩ = some (.int .i64 ya) := cell_of_row W4 _ 1 _ _ _ row4
  have x2 : W4.cell? ⟨w3.heap.size, 2, none⟩ = some (.int .i64 yb) := cell_of_row W4 _ 2 _ _ _ row4
  have x3 : W4.cell? ⟨w3.heap.size, 3, none⟩ = some (.slice a3 yl.length b3) := cell_of_row W4 _ 3 _ _ _ row4
  have C4 := Lib.hid (C3.out.trans (b4.mono C3.out.size))
  have I4 := Lib.hid (intsAt_later I3.out b4)
  rw [hW4]
  clear hW4 b4 row4
  go_wp2_with fail
  refine (HR.out W4).mono ?_
  rintro en w5 ⟨lv5, rfl, o5, l5, c5⟩
  obtain ⟨a5, b5, rfl⟩ := own_form o5.1
  dsimp only at o5 l5 ⊢
  rw [hlen] at o5 ⊢
  have C5 := Lib.hid (C4.out.trans (c5.mono C4.out.size))
  have I5 := Lib.hid (intsAt_later I4.out c5)
  have J5 := Lib.hid (ints_own o5 l5)
  replace x0 := cell_later c5 x0
  replace x1 := cell_later c5 x1
  replace x2 := cell_later c5 x2
  replace x3 := cell_later c5 x3
  clear c5 o5 l5 hlen
  go_upto_region 6 with fail
  obtain ⟨W6, hW6⟩ : ∃ W6, w5.alloc (.cells #[.int .i64 yo, .int .i64 ya, .int .i64 yb, .slice a5 yl.length b5] 33) = W6 := ⟨_, rfl⟩
  have b6 : Below w5.heap.size w5 W6 := by rw [← hW6]; exact (Below.refl _ _).alloc (Nat.le_refl _) _
  have row6 : W6.heap[w5.heap.size]? = some (.cells #[.int .i64 yo, .int .i64 ya, .int .i64 yb, .slice a5 yl.length b5] 33 (0, 0)) := by rw [← hW6]; exact heap_alloc_new _ _
  have y0 : W6.cell? ⟨w5.heap.size, 0, none⟩ = some (.int .i64 yo) := cell_of_row W6 _ 0 _ _ _ row6
  have y1 : W6.cell? ⟨w5.heap.size, 1, none⟩ = some (.int .i64 ya) := cell_of_row W6 _ 1 _ _ _ row6
  have y2 : W6.cell? ⟨w5.heap.size, 2, none⟩ = some (.int .i64 yb) := cell_of_row W6 _ 2 _ _ _ row6
  have y3 : W6.cell? ⟨w5.heap.size, 3, none⟩ = some (.slice a5 yl.length b5) := cell_of_row W6 _ 3 _ _ _ row6
  replace x0 := cell_later b6 x0
  replace x1 := cell_later b6 x1
  replace x2 := cell_later b6 x2
  replace x3 := cell_later b6 x3
  have C6 := Lib.hid (C5.out.trans (b6.mono C5.out.size))
  have HS := Lib.hid (rsameI_any yo ya yb yo ya yb a3 a5 b3 b5 yl yl W6 (intsAt_later I5.out b6) (intsAt_later J5.out b6) (by have := HLL.out; omega) (by have := HLL.out; omega) true HSS.out)
  rw [hW6]
  clear hW6 b6 row6
  go_wp2_with fail
  refine HS.out.mono ?_
  rintro en w7 ⟨rfl, c7⟩
  go_wp2_with fail
  go_ret
  exact ⟨rfl, C6.out.trans (c7.mono C6.out.size)⟩
end Go.Proofs.YteidhccnbfikcaaGreatDoor.Dec
