/-
  What package op's plain answers; its closure that puts a name ahead; numbers. No condition beyond what each theorem names.
-/
import Derived.Test.YtmbgemcddjailaaGreatDoorShelf
import Derived.Test.YtmbgemcddjailaaGreatDoorProg
import Derived.Test.YtmbgemcddjailaaGreatDoorOpPlain
import Derived.WalkKit
import Derived.WalkSpells
import Derived.WalkLawsBesides
import Derived.WalkSmall
import Derived.IntWalk
import Derived.Lib.Hide
import Derived.Lib.ReplaceLaws
import Derived.Outline
import Derived.Deep.RegionWith
import Derived.BigRegion
namespace Go.Proofs.YtmbgemcddjailaaGreatDoor.Op
open Go.RowKit
set_option linter.unusedVariables false
theorem below_drew {w w1 : World} (h : Below w.drew.heap.size w.drew w1) : Below w.heap.size w w1 := Below.trans (show Below w.heap.size w w.drew from ⟨rfl, rfl, rfl, Nat.le_refl _, fun _ _ => rfl⟩) h
theorem repl_any (names name sp : ByteArray) (out : List UInt8) (m : Int) (w : World) (hm : w.cell? ⟨6, 0, none⟩ = some (.int .i64 m)) (hs : names.size < 1000) (hn : name.size < 1000) (hsp : sp = ⟨#[32]⟩) (hout : Lib.replaceAll names.data.toList [32] (32 :: name.data.toList) = out) :
    Calls Tryz.prog 182 #[.string names, .string sp, .string (sp ++ name)] w fun e w' => e = .returned (.string ⟨out.toArray⟩) ∧ Below w.heap.size w w' := by
  have h1s : sp.size = 1 := by rw [hsp]; rfl
  have hsz : (sp ++ name).size = name.size + 1 := by rw [ByteArray.size_append, h1s]; exact Nat.add_comm _ _
  have h1 := Lib.countB_le sp (by omega) names.size names (Nat.le_refl _)
  have hl : (sp ++ name).data.toList = 32 :: name.data.toList := by rw [hsp]; simp [ByteArray.data_append]
  have h2 : Lib.countB names sp * (name.size + 1) ≤ 1000 * 1000 := Nat.mul_le_mul (by omega) (by omega)
  have h3 : names.size + Lib.countB names sp * (sp ++ name).size ≤ 140737488355328 := by rw [hsz]; omega
  refine (Tryz.strings_ReplaceAll names sp (sp ++ name) m w (by omega) hm (by omega) h3).mono ?_
  rintro e w' ⟨rfl, hb⟩
  refine ⟨?_, hb⟩
  rw [hl, hsp, show (⟨#[32]⟩ : ByteArray).data.toList = [32] from rfl, hout]
set_option maxRecDepth 100000 in
set_option maxHeartbeats 1000000 in
theorem with_any (w : World) (names name : ByteArray) (out : List UInt8) (b : Nat) (m : Int) (hb : b < w.heap.size) (hp : w.cell? ⟨b, 0, none⟩ = some (.string name)) (hm : w.cell? ⟨6, 0, none⟩ = some (.int .i64 m)) (hs : names.size < 1000) (hn : name.size < 1000)
    (hout : Hid (Lib.replaceAll names.data.toList [32] (32 :: name.data.toList) = out)) (hol : out.length < 1000) :
    Calls Tryz.prog 181 #[.string names, .pointer (some ⟨b, 0, none⟩)] w fun e w' => e = .returned (.string (name ++ ⟨out.toArray⟩)) ∧ Below w.heap.size w w' := by
  have hz : (⟨out.toArray⟩ : ByteArray).size = out.length := rfl
  have HMD := Lib.hid (show w.drew.cell? ⟨6, 0, none⟩ = some (.int .i64 m) from hm)
  have HBD := Lib.hid (show b < w.drew.heap.size from hb)
  clear hm
  go_enter Tryz.func181, Tryz.ntmps181
  go_wp2_with fail
  go_region_with (go_at_call 182; refine (repl_any names name _ out m _ HMD.out hs hn rfl hout.out).mono ?_; rintro e w1 ⟨rfl, hb1⟩; have hc1 := hb1.cell (p := ⟨b, 0, none⟩) HBD.out)
  all_goals
    go_wp2_with fail
    go_ret
    exact ⟨rfl, below_drew ‹_›⟩

theorem opEnv_later {w w' : World} (h : OpEnv w) (hb : Below w.heap.size w w') : OpEnv w' := by
  obtain ⟨⟨m, hm⟩, ht⟩ := h
  have hg : Tryz.prog.globalNamed "strings.asciiSpace" = some 4 := by kernel_rfl
  refine ⟨⟨m, cell_later hb hm⟩, ?_⟩
  have h0 := ht.cell hg 0 (of_decide_eq_true (by kernel_rfl))
  exact Go.var?_below hb hg (World.block_lt_of_cell? _ _ h0) ht

theorem with_lit (w : World) (names name R : ByteArray) (b : Nat) (m : Int) (hb : b < w.heap.size) (hp : w.cell? ⟨b, 0, none⟩ = some (.string name)) (hm : w.cell? ⟨6, 0, none⟩ = some (.int .i64 m)) (hs : names.size < 1000) (hn : name.size < 1000)
    (hR : name ++ ⟨(Lib.replaceAll names.data.toList [32] (32 :: name.data.toList)).toArray⟩ = R) (hol : (Lib.replaceAll names.data.toList [32] (32 :: name.data.toList)).length < 1000) :
    Calls Tryz.prog 181 #[.string names, .pointer (some ⟨b, 0, none⟩)] w fun e w' => e = .returned (.string R) ∧ Below w.heap.size w w' := by
  rw [← hR]
  exact with_any w names name _ b m hb hp hm hs hn (Lib.hid rfl) hol
set_option maxRecDepth 100000 in
set_option maxHeartbeats 2000000 in
theorem numbers_32 (w : World) (h : OpEnv w) : Calls Tryz.prog 173 #[.string ⟨#[105, 51, 50, 46]⟩, .string ⟨#[127]⟩, .int .i64 69, .int .i64 103] w (MadeGrps 250 w num32G) := by
  obtain ⟨⟨m, hm⟩, ht⟩ := h
  clear ht
  have B0 : Below w.heap.size w (w.alloc (.cells #[.string ⟨#[105, 51, 50, 46]⟩] 9)) := (Below.refl _ _).alloc (Nat.le_refl _) _
  have HM0 := Lib.hid (cell_later B0 hm)
  have HC0 := Lib.hid (show (w.alloc (.cells #[.string ⟨#[105, 51, 50, 46]⟩] 9)).cell? ⟨w.heap.size, 0, none⟩ = some (.string ⟨#[105, 51, 50, 46]⟩) by simp)
  have HS0 := Lib.hid (show w.heap.size < (w.alloc (.cells #[.string ⟨#[105, 51, 50, 46]⟩] 9)).heap.size by simp)
  clear hm
  go_enter Tryz.func173, Tryz.ntmps173
  go_wp2_with fail
  refine (with_lit _ ⟨#[101, 113, 122]⟩ ⟨#[105, 51, 50, 46]⟩ ⟨#[105, 51, 50, 46, 101, 113, 122]⟩ _ m HS0.out HC0.out HM0.out (by decide) (by decide) (by kernel_rfl) (of_decide_eq_true (by kernel_rfl))).mono ?_
  rintro e w1 ⟨rfl, c1⟩
  have B1 := B0.trans (c1.mono B0.size)
  have HM1 := Lib.hid (cell_later c1 HM0.out)
  have HC1 := Lib.hid (cell_later c1 HC0.out)
  have HS1 := Lib.hid (Nat.lt_of_lt_of_le HS0.out c1.size)
  clear c1 HM0 HC0 HS0
  go_wp2_with fail
  refine (with_lit _ ⟨#[101, 113, 32, 110, 101, 32, 108, 116, 95, 115, 32, 108, 116, 95, 117, 32, 103, 116, 95, 115, 32, 103, 116, 95, 117, 32, 108, 101, 95, 115, 32, 108, 101, 95, 117, 32, 103, 101, 95, 115, 32, 103, 101, 95, 117]⟩ ⟨#[105, 51, 50, 46]⟩ ⟨#[105, 51, 50, 46, 101, 113, 32, 105, 51, 50, 46, 110, 101, 32, 105, 51, 50, 46, 108, 116, 95, 115, 32, 105, 51, 50, 46, 108, 116, 95, 117, 32, 105, 51, 50, 46, 103, 116, 95, 115, 32, 105, 51, 50, 46, 103, 116, 95, 117, 32, 105, 51, 50, 46, 108, 101, 95, 115, 32, 105, 51, 50, 46, 108, 101, 95, 117, 32, 105, 51, 50, 46, 103, 101, 95, 115, 32, 105, 51, 50, 46, 103, 101, 95, 117]⟩ _ m HS1.out HC1.out HM1.out (by decide) (by decide) (by kernel_rfl) (of_decide_eq_true (by kernel_rfl))).mono ?_
  rintro e w2 ⟨rfl, c2⟩
  have B2 := B1.trans (c2.mono B1.size)
  have HM2 := Lib.hid (cell_later c2 HM1.out)
  have HC2 := Lib.hid (cell_later c2 HC1.out)
  have HS2 := Lib.hid (Nat.lt_of_lt_of_le HS1.out c2.size)
  clear c2 HM1 HC1 HS1
  go_wp2_with fail
  refine (with_lit _ ⟨#[99, 108, 122, 32, 99, 116, 122, 32, 112, 111, 112, 99, 110, 116]⟩ ⟨#[105, 51, 50, 46]⟩ ⟨#[105, 51, 50, 46, 99, 108, 122, 32, 105, 51, 50, 46, 99, 116, 122, 32, 105, 51, 50, 46, 112, 111, 112, 99, 110, 116]⟩ _ m HS2.out HC2.out HM2.out (by decide) (by decide) (by kernel_rfl) (of_decide_eq_true (by kernel_rfl))).mono ?_
  rintro e w3 ⟨rfl, c3⟩
  have B3 := B2.trans (c3.mono B2.size)
  have HM3 := Lib.hid (cell_later c3 HM2.out)
  have HC3 := Lib.hid (cell_later c3 HC2.out)
  have HS3 := Lib.hid (Nat.lt_of_lt_of_le HS2.out c3.size)
  clear c3 HM2 HC2 HS2
  go_wp2_with fail
  refine (with_lit _ ⟨#[97, 100, 100, 32, 115, 117, 98, 32, 109, 117, 108, 32, 100, 105, 118, 95, 115, 32, 100, 105, 118, 95, 117, 32, 114, 101, 109, 95, 115, 32, 114, 101, 109, 95, 117, 32, 97, 110, 100, 32, 111, 114, 32, 120, 111, 114, 32, 115, 104, 108, 32, 115, 104, 114, 95, 115, 32, 115, 104, 114, 95, 117, 32, 114, 111, 116, 108, 32, 114, 111, 116, 114]⟩ ⟨#[105, 51, 50, 46]⟩ ⟨#[105, 51, 50, 46, 97, 100, 100, 32, 105, 51, 50, 46, 115, 117, 98, 32, 105, 51, 50, 46, 109, 117, 108, 32, 105, 51, 50, 46, 100, 105, 118, 95, 115, 32, 105, 51, 50, 46, 100, 105, 118, 95, 117, 32, 105, 51, 50, 46, 114, 101, 109, 95, 115, 32, 105, 51, 50, 46, 114, 101, 109, 95, 117, 32, 105, 51, 50, 46, 97, 110, 100, 32, 105, 51, 50, 46, 111, 114, 32, 105, 51, 50, 46, 120, 111, 114, 32, 105, 51, 50, 46, 115, 104, 108, 32, 105, 51, 50, 46, 115, 104, 114, 95, 115, 32, 105, 51, 50, 46, 115, 104, 114, 95, 117, 32, 105, 51, 50, 46, 114, 111, 116, 108, 32, 105, 51, 50, 46, 114, 111, 116, 114]⟩ _ m HS3.out HC3.out HM3.out (by decide) (by decide) (by kernel_rfl) (of_decide_eq_true (by kernel_rfl))).mono ?_
  rintro e w4 ⟨rfl, c4⟩
  have B4 := B3.trans (c4.mono B3.size)
  have HM4 := Lib.hid (cell_later c4 HM3.out)
  have HC4 := Lib.hid (cell_later c4 HC3.out)
  have HS4 := Lib.hid (Nat.lt_of_lt_of_le HS3.out c4.size)
  clear c4 HM3 HC3 HS3
  go_wp2_with fail
  go_ret
  have h5 := B4.size
  exact ⟨_, rfl, ⟨rfl, .inr ⟨w4.heap.size, 4, _, rfl, h5, heap_alloc_new _ _, Nat.le_refl _, by decide, rfl, rfl⟩⟩, B4.alloc h5 _, _, _, rfl⟩
set_option maxRecDepth 100000 in
set_option maxHeartbeats 2000000 in
theorem numbers_64 (w : World) (h : OpEnv w) : Calls Tryz.prog 173 #[.string ⟨#[105, 54, 52, 46]⟩, .string ⟨#[126]⟩, .int .i64 80, .int .i64 121] w (MadeGrps 250 w num64G) := by
  obtain ⟨⟨m, hm⟩, ht⟩ := h
  clear ht
  have B0 : Below w.heap.size w (w.alloc (.cells #[.string ⟨#[105, 54, 52, 46]⟩] 9)) := (Below.refl _ _).alloc (Nat.le_refl _) _
  have HM0 := Lib.hid (cell_later B0 hm)
  have HC0 := Lib.hid (show (w.alloc (.cells #[.string ⟨#[105, 54, 52, 46]⟩] 9)).cell? ⟨w.heap.size, 0, none⟩ = some (.string ⟨#[105, 54, 52, 46]⟩) by simp)
  have HS0 := Lib.hid (show w.heap.size < (w.alloc (.cells #[.string ⟨#[105, 54, 52, 46]⟩] 9)).heap.size by simp)
  clear hm
  go_enter Tryz.func173, Tryz.ntmps173
  go_wp2_with fail
  refine (with_lit _ ⟨#[101, 113, 122]⟩ ⟨#[105, 54, 52, 46]⟩ ⟨#[105, 54, 52, 46, 101, 113, 122]⟩ _ m HS0.out HC0.out HM0.out (by decide) (by decide) (by kernel_rfl) (of_decide_eq_true (by kernel_rfl))).mono ?_
  rintro e w1 ⟨rfl, c1⟩
  have B1 := B0.trans (c1.mono B0.size)
  have HM1 := Lib.hid (cell_later c1 HM0.out)
  have HC1 := Lib.hid (cell_later c1 HC0.out)
  have HS1 := Lib.hid (Nat.lt_of_lt_of_le HS0.out c1.size)
  clear c1 HM0 HC0 HS0
  go_wp2_with fail
  refine (with_lit _ ⟨#[101, 113, 32, 110, 101, 32, 108, 116, 95, 115, 32, 108, 116, 95, 117, 32, 103, 116, 95, 115, 32, 103, 116, 95, 117, 32, 108, 101, 95, 115, 32, 108, 101, 95, 117, 32, 103, 101, 95, 115, 32, 103, 101, 95, 117]⟩ ⟨#[105, 54, 52, 46]⟩ ⟨#[105, 54, 52, 46, 101, 113, 32, 105, 54, 52, 46, 110, 101, 32, 105, 54, 52, 46, 108, 116, 95, 115, 32, 105, 54, 52, 46, 108, 116, 95, 117, 32, 105, 54, 52, 46, 103, 116, 95, 115, 32, 105, 54, 52, 46, 103, 116, 95, 117, 32, 105, 54, 52, 46, 108, 101, 95, 115, 32, 105, 54, 52, 46, 108, 101, 95, 117, 32, 105, 54, 52, 46, 103, 101, 95, 115, 32, 105, 54, 52, 46, 103, 101, 95, 117]⟩ _ m HS1.out HC1.out HM1.out (by decide) (by decide) (by kernel_rfl) (of_decide_eq_true (by kernel_rfl))).mono ?_
  rintro e w2 ⟨rfl, c2⟩
  have B2 := B1.trans (c2.mono B1.size)
  have HM2 := Lib.hid (cell_later c2 HM1.out)
  have HC2 := Lib.hid (cell_later c2 HC1.out)
  have HS2 := Lib.hid (Nat.lt_of_lt_of_le HS1.out c2.size)
  clear c2 HM1 HC1 HS1
  go_wp2_with fail
  refine (with_lit _ ⟨#[99, 108, 122, 32, 99, 116, 122, 32, 112, 111, 112, 99, 110, 116]⟩ ⟨#[105, 54, 52, 46]⟩ ⟨#[105, 54, 52, 46, 99, 108, 122, 32, 105, 54, 52, 46, 99, 116, 122, 32, 105, 54, 52, 46, 112, 111, 112, 99, 110, 116]⟩ _ m HS2.out HC2.out HM2.out (by decide) (by decide) (by kernel_rfl) (of_decide_eq_true (by kernel_rfl))).mono ?_
  rintro e w3 ⟨rfl, c3⟩
  have B3 := B2.trans (c3.mono B2.size)
  have HM3 := Lib.hid (cell_later c3 HM2.out)
  have HC3 := Lib.hid (cell_later c3 HC2.out)
  have HS3 := Lib.hid (Nat.lt_of_lt_of_le HS2.out c3.size)
  clear c3 HM2 HC2 HS2
  go_wp2_with fail
  refine (with_lit _ ⟨#[97, 100, 100, 32, 115, 117, 98, 32, 109, 117, 108, 32, 100, 105, 118, 95, 115, 32, 100, 105, 118, 95, 117, 32, 114, 101, 109, 95, 115, 32, 114, 101, 109, 95, 117, 32, 97, 110, 100, 32, 111, 114, 32, 120, 111, 114, 32, 115, 104, 108, 32, 115, 104, 114, 95, 115, 32, 115, 104, 114, 95, 117, 32, 114, 111, 116, 108, 32, 114, 111, 116, 114]⟩ ⟨#[105, 54, 52, 46]⟩ ⟨#[105, 54, 52, 46, 97, 100, 100, 32, 105, 54, 52, 46, 115, 117, 98, 32, 105, 54, 52, 46, 109, 117, 108, 32, 105, 54, 52, 46, 100, 105, 118, 95, 115, 32, 105, 54, 52, 46, 100, 105, 118, 95, 117, 32, 105, 54, 52, 46, 114, 101, 109, 95, 115, 32, 105, 54, 52, 46, 114, 101, 109, 95, 117, 32, 105, 54, 52, 46, 97, 110, 100, 32, 105, 54, 52, 46, 111, 114, 32, 105, 54, 52, 46, 120, 111, 114, 32, 105, 54, 52, 46, 115, 104, 108, 32, 105, 54, 52, 46, 115, 104, 114, 95, 115, 32, 105, 54, 52, 46, 115, 104, 114, 95, 117, 32, 105, 54, 52, 46, 114, 111, 116, 108, 32, 105, 54, 52, 46, 114, 111, 116, 114]⟩ _ m HS3.out HC3.out HM3.out (by decide) (by decide) (by kernel_rfl) (of_decide_eq_true (by kernel_rfl))).mono ?_
  rintro e w4 ⟨rfl, c4⟩
  have B4 := B3.trans (c4.mono B3.size)
  have HM4 := Lib.hid (cell_later c4 HM3.out)
  have HC4 := Lib.hid (cell_later c4 HC3.out)
  have HS4 := Lib.hid (Nat.lt_of_lt_of_le HS3.out c4.size)
  clear c4 HM3 HC3 HS3
  go_wp2_with fail
  go_ret
  have h5 := B4.size
  exact ⟨_, rfl, ⟨rfl, .inr ⟨w4.heap.size, 4, _, rfl, h5, heap_alloc_new _ _, Nat.le_refl _, by decide, rfl, rfl⟩⟩, B4.alloc h5 _, _, _, rfl⟩
end Go.Proofs.YtmbgemcddjailaaGreatDoor.Op
