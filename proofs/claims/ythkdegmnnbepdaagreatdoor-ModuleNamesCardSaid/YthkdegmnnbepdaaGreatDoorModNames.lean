/-
  The law of names: the walk. No condition beyond what each theorem names.
-/
import Derived.Test.YthkdegmnnbepdaaGreatDoorModEx
import Derived.Test.YthkdegmnnbepdaaGreatDoorModNamesP
namespace Go.Proofs.YthkdegmnnbepdaaGreatDoor.Mod
open Go.RowKit Go.Maps Go.Proofs.YthkdegmnnbepdaaGreatDoor.Op
set_option linter.unusedVariables false
set_option maxRecDepth 100000 in
set_option maxHeartbeats 4000000 in
theorem names_walk (a b : ByteArray) (w : World) (hE : MEnv w) (hP : PowEnv w) (ha : a.size ≤ 140737488355328) (hb : b.size ≤ 140737488355328) :
    Calls Tryz.prog 8 #[.string a, .string b] w fun e w' => e = .returned (.bool true) ∧ Below w.heap.size w w' := by
  have HN := Lib.hid (fun (S : ByteArray) (r : Bool) (W : World) (hB : Below w.heap.size w W) (hs : S.size ≤ 300000000000000) (hr : nameB S = r) => (show Calls Tryz.prog 15 #[.string S] W fun e w' => e = .returned (.bool r) ∧ Below W.heap.size W w' from by
    have h := name_any S W (hE.later hB) (by omega)
    rw [hr] at h
    exact h))
  have HX := Lib.hid (examples04 w hE hP)
  have s1 := Lib.hid (show (a ++ b).size ≤ 300000000000000 by rw [ByteArray.size_append]; omega)
  have s2 := Lib.hid (show (a ++ (⟨#[195]⟩ : ByteArray)).size ≤ 300000000000000 by rw [ByteArray.size_append, show (⟨#[195]⟩ : ByteArray).size = 1 from rfl]; omega)
  have s3 := Lib.hid (show ((⟨#[128]⟩ : ByteArray) ++ b).size ≤ 300000000000000 by rw [ByteArray.size_append, show (⟨#[128]⟩ : ByteArray).size = 1 from rfl]; omega)
  have s4 := Lib.hid (show (a ++ (⟨#[237, 160, 128]⟩ : ByteArray)).size ≤ 300000000000000 by rw [ByteArray.size_append, show (⟨#[237, 160, 128]⟩ : ByteArray).size = 3 from rfl]; omega)
  have n1 := Lib.hid (show nameB (a ++ (⟨#[195]⟩ : ByteArray)) = false by unfold nameB; rw [ByteArray.data_append, Array.toList_append]; exact name_cut _)
  have n2 := Lib.hid (show nameB ((⟨#[128]⟩ : ByteArray) ++ b) = false by unfold nameB; rw [ByteArray.data_append, Array.toList_append]; exact name_mid _)
  have n3 := Lib.hid (show nameB (⟨#[240, 159, 152, 128]⟩ : ByteArray) = true from name_four)
  have n4 := Lib.hid (show nameB (a ++ (⟨#[237, 160, 128]⟩ : ByteArray)) = false by unfold nameB; rw [ByteArray.data_append, Array.toList_append]; exact name_half _)
  have n5 := Lib.hid (show nameB a = true → nameB b = true → nameB (a ++ b) = true by
    unfold nameB
    rw [ByteArray.data_append, Array.toList_append]
    exact names_both)
  have HA := Lib.hid ha
  have HB := Lib.hid hb
  clear hE hP
  obtain ⟨ra, hra⟩ : ∃ r, nameB a = r := ⟨_, rfl⟩
  obtain ⟨rb, hrb⟩ : ∃ r, nameB b = r := ⟨_, rfl⟩
  have RA := Lib.hid hra
  have RB := Lib.hid hrb
  clear hra hrb
  cases ra with
  | false =>
    go_enter Tryz.func8, Tryz.ntmps8
    go_wp2_with fail
    refine HX.out.mono ?_
    rintro e w1 ⟨rfl, c1⟩
    have C1 := Lib.hid c1
    clear c1
    go_wp2_with fail
    refine (HN.out a false _ C1.out (by have := HA.out; omega) RA.out).mono ?_
    rintro e w2 ⟨rfl, c2⟩
    have C2 := Lib.hid (C1.out.trans (c2.mono C1.out.size))
    clear c2
    go_wp2_with fail
    refine (HN.out (a ++ (⟨#[195]⟩ : ByteArray)) false _ C2.out s2.out n1.out).mono ?_
    rintro e w3 ⟨rfl, c3⟩
    have C3 := Lib.hid (C2.out.trans (c3.mono C2.out.size))
    clear c3
    go_wp2_with fail
    refine (HN.out ((⟨#[128]⟩ : ByteArray) ++ b) false _ C3.out s3.out n2.out).mono ?_
    rintro e w4 ⟨rfl, c4⟩
    have C4 := Lib.hid (C3.out.trans (c4.mono C3.out.size))
    clear c4
    go_wp2_with fail
    refine (HN.out (⟨#[240, 159, 152, 128]⟩ : ByteArray) true _ C4.out (by decide) n3.out).mono ?_
    rintro e w5 ⟨rfl, c5⟩
    have C5 := Lib.hid (C4.out.trans (c5.mono C4.out.size))
    clear c5
    go_wp2_with fail
    refine (HN.out (a ++ (⟨#[237, 160, 128]⟩ : ByteArray)) false _ C5.out s4.out n4.out).mono ?_
    rintro e w6 ⟨rfl, c6⟩
    have C6 := Lib.hid (C5.out.trans (c6.mono C5.out.size))
    clear c6
    go_wp2_with fail
    go_ret
    exact ⟨rfl, C6.out⟩
  | true =>
    cases rb with
    | false =>
      go_enter Tryz.func8, Tryz.ntmps8
      go_wp2_with fail
      refine HX.out.mono ?_
      rintro e w1 ⟨rfl, c1⟩
      have C1 := Lib.hid c1
      clear c1
      go_wp2_with fail
      refine (HN.out a true _ C1.out (by have := HA.out; omega) RA.out).mono ?_
      rintro e w2 ⟨rfl, c2⟩
      have C2 := Lib.hid (C1.out.trans (c2.mono C1.out.size))
      clear c2
      go_wp2_with fail
      refine (HN.out b false _ C2.out (by have := HB.out; omega) RB.out).mono ?_
      rintro e w3 ⟨rfl, c3⟩
      have C3 := Lib.hid (C2.out.trans (c3.mono C2.out.size))
      clear c3
      go_wp2_with fail
      refine (HN.out (a ++ (⟨#[195]⟩ : ByteArray)) false _ C3.out s2.out n1.out).mono ?_
      rintro e w4 ⟨rfl, c4⟩
      have C4 := Lib.hid (C3.out.trans (c4.mono C3.out.size))
      clear c4
      go_wp2_with fail
      refine (HN.out ((⟨#[128]⟩ : ByteArray) ++ b) false _ C4.out s3.out n2.out).mono ?_
      rintro e w5 ⟨rfl, c5⟩
      have C5 := Lib.hid (C4.out.trans (c5.mono C4.out.size))
      clear c5
      go_wp2_with fail
      refine (HN.out (⟨#[240, 159, 152, 128]⟩ : ByteArray) true _ C5.out (by decide) n3.out).mono ?_
      rintro e w6 ⟨rfl, c6⟩
      have C6 := Lib.hid (C5.out.trans (c6.mono C5.out.size))
      clear c6
      go_wp2_with fail
      refine (HN.out (a ++ (⟨#[237, 160, 128]⟩ : ByteArray)) false _ C6.out s4.out n4.out).mono ?_
      rintro e w7 ⟨rfl, c7⟩
      have C7 := Lib.hid (C6.out.trans (c7.mono C6.out.size))
      clear c7
      go_wp2_with fail
      go_ret
      exact ⟨rfl, C7.out⟩
    | true =>
      go_enter Tryz.func8, Tryz.ntmps8
      go_wp2_with fail
      refine HX.out.mono ?_
      rintro e w1 ⟨rfl, c1⟩
      have C1 := Lib.hid c1
      clear c1
      go_wp2_with fail
      refine (HN.out a true _ C1.out (by have := HA.out; omega) RA.out).mono ?_
      rintro e w2 ⟨rfl, c2⟩
      have C2 := Lib.hid (C1.out.trans (c2.mono C1.out.size))
      clear c2
      go_wp2_with fail
      refine (HN.out b true _ C2.out (by have := HB.out; omega) RB.out).mono ?_
      rintro e w3 ⟨rfl, c3⟩
      have C3 := Lib.hid (C2.out.trans (c3.mono C2.out.size))
      clear c3
      go_wp2_with fail
      refine (HN.out (a ++ b) true _ C3.out s1.out (n5.out RA.out RB.out)).mono ?_
      rintro e w4 ⟨rfl, c4⟩
      have C4 := Lib.hid (C3.out.trans (c4.mono C3.out.size))
      clear c4
      go_wp2_with fail
      refine (HN.out (a ++ (⟨#[195]⟩ : ByteArray)) false _ C4.out s2.out n1.out).mono ?_
      rintro e w5 ⟨rfl, c5⟩
      have C5 := Lib.hid (C4.out.trans (c5.mono C4.out.size))
      clear c5
      go_wp2_with fail
      refine (HN.out ((⟨#[128]⟩ : ByteArray) ++ b) false _ C5.out s3.out n2.out).mono ?_
      rintro e w6 ⟨rfl, c6⟩
      have C6 := Lib.hid (C5.out.trans (c6.mono C5.out.size))
      clear c6
      go_wp2_with fail
      refine (HN.out (⟨#[240, 159, 152, 128]⟩ : ByteArray) true _ C6.out (by decide) n3.out).mono ?_
      rintro e w7 ⟨rfl, c7⟩
      have C7 := Lib.hid (C6.out.trans (c7.mono C6.out.size))
      clear c7
      go_wp2_with fail
      refine (HN.out (a ++ (⟨#[237, 160, 128]⟩ : ByteArray)) false _ C7.out s4.out n4.out).mono ?_
      rintro e w8 ⟨rfl, c8⟩
      have C8 := Lib.hid (C7.out.trans (c8.mono C7.out.size))
      clear c8
      go_wp2_with fail
      go_ret
      exact ⟨rfl, C8.out⟩
end Go.Proofs.YthkdegmnnbepdaaGreatDoor.Mod
