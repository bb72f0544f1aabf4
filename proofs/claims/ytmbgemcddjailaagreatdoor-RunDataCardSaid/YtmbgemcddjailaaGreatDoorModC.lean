/-
  What package module's word, types, Name, and the small functions within Right answer. No condition beyond what each theorem names.
-/
import Derived.Test.YtmbgemcddjailaaGreatDoorModAll
namespace Go.Proofs.YtmbgemcddjailaaGreatDoor.Mod
open Go.RowKit Go.Maps Go.Proofs.YtmbgemcddjailaaGreatDoor.Op
set_option linter.unusedVariables false
/-- what the listed variables hold: what Right reads -/
structure MEnv (w : World) : Prop where
  op : OpEnv w
  u8 : Lib.Utf8Tabs 0 1 w
theorem word_one (n : Int) (w : World) : Calls Tryz.prog 55 #[.int .i64 n] w fun e w' => e = .returned (.bool (wordB n)) ∧ w = w' := by
  have hw : (n / 4294967296 == 0) = wordB n := by
    unfold wordB
    rw [Bool.eq_iff_iff]
    simp
    omega
  go_enter Tryz.func55, Tryz.ntmps55
  go_wp2_with fail
  go_ret
  exact ⟨rfl, rfl⟩
set_option maxRecDepth 100000 in
theorem types_any (s : ByteArray) (m : Int) (w : World) (hs : s.size ≤ 9223372036854775807) :
    Calls Tryz.prog 58 #[.string s, .int .i64 m] w fun e w' => e = .returned (.bool (typesB s m)) ∧ Below w.heap.size w w' := by
  by_cases hle : (s.size : Int) ≤ m
  · have hcall := Tryz.strings_Trim_laid s ⟨#[127, 126]⟩ w hs (by decide) (ascii_of_all (by decide))
    rw [typesB_short hle]
    obtain ⟨T, hT⟩ : ∃ T, Lib.trimS s.data.toList [127, 126] = T := ⟨_, rfl⟩
    change Calls Tryz.prog 89 _ _ (fun e w' => e = .returned (.string ⟨(Lib.trimS s.data.toList [127, 126]).toArray⟩) ∧ Below w.heap.size w w') at hcall
    rw [hT] at hcall ⊢
    clear hT
    have hd : decide ((s.size : Int) ≤ m) = true := decide_eq_true hle
    cases T with
    | nil =>
      go_enter Tryz.func58, Tryz.ntmps58
      go_wp2_with (go_at_call 89; refine hcall.mono ?_; rintro e w' ⟨rfl, hb'⟩)
      go_ret
      exact ⟨rfl, hb'⟩
    | cons a l =>
      obtain ⟨S, hS⟩ : ∃ S : ByteArray, (⟨(a :: l).toArray⟩ : ByteArray) = S := ⟨_, rfl⟩
      have hne : (S.toList.isEmpty) = false := by
        rw [← hS, ByteArray.toList_eq]
        simp
      rw [hS] at hcall
      clear hS
      go_enter Tryz.func58, Tryz.ntmps58
      go_wp2_with (go_at_call 89; refine hcall.mono ?_; rintro e w' ⟨rfl, hb'⟩)
      go_ret
      exact ⟨rfl, hb'⟩
  · rw [typesB_long (by omega)]
    have hd : decide ((s.size : Int) ≤ m) = false := decide_eq_false hle
    go_enter Tryz.func58, Tryz.ntmps58
    go_wp2_with fail
    go_ret
    exact ⟨rfl, Below.refl _ _⟩
end Go.Proofs.YtmbgemcddjailaaGreatDoor.Mod
