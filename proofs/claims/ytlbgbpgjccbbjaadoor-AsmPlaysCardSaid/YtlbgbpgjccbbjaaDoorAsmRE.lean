/-
  What the reference's New and Local of chapter 17 do. No condition beyond what each theorem names.
-/
import Derived.Test.YtlbgbpgjccbbjaaDoorAsmRD
import Derived.Laws.BytesString
namespace Go.Proofs.YtlbgbpgjccbbjaaDoor.Asm
open Go.RowKit Go.Maps Go.Proofs.YtlbgbpgjccbbjaaDoor.Op
set_option linter.unusedVariables false
def RNewL (l : List UInt8) (i : Value) : Prop := ∃ k : Nat, k ≤ l.length ∧ i = .int .i64 k ∧ ∀ b ∈ l.take k, (b == 127 || b == 126) = true
/-- a new Builder of the reference -/
def RMadeB (w : World) (P : ByteArray) (e : Ending) (w' : World) : Prop := ∃ bb, e = .returned (.pointer (some ⟨bb, 0, none⟩)) ∧ RAt w' w.heap.size bb P ⟨.slice none 0 0, .slice none 0 0⟩ ⟨P.size, [], [], []⟩ ∧ Below w.heap.size w w'
theorem kval (k : UInt8) (b : Bool) (h : (k == 127 || k == 126) = b) : (b = false → ((k.toNat : Int) != 126) = true ∧ ((k.toNat : Int) != 127) = true) ∧ (b = true → (((k.toNat : Int) != 126) = false) ∨ (((k.toNat : Int) != 126) = true ∧ ((k.toNat : Int) != 127) = false)) := by
  have h1 := knumN k 126 (by decide) _ rfl
  have h2 := knumN k 127 (by decide) _ rfl
  change ((k.toNat : Int) != 126) = _ at h1
  change ((k.toNat : Int) != 127) = _ at h2
  change _ = !(k == 126) at h1
  change _ = !(k == 127) at h2
  rw [h1, h2]
  subst h
  constructor
  · intro h
    simp only [Bool.or_eq_false_iff] at h
    rw [h.1, h.2]
    exact ⟨rfl, rfl⟩
  · intro h
    cases h6 : (k == 126)
    · rw [h6, Bool.or_false] at h
      rw [h]
      exact .inr ⟨rfl, rfl⟩
    · exact .inl rfl
theorem rnew_end (P : ByteArray) (w : World) : RMadeB w P (.returned (.pointer (some ⟨w.heap.size, 0, none⟩))) (w.alloc (.cells #[.string P, .string ⟨#[]⟩, .slice none 0 0, .slice none 0 0] 67)) :=
  ⟨w.heap.size, rfl, ⟨heap_alloc_new w _, Nat.le_refl _, rfl, World.ownsRow_nil _ _ _ _, World.ownsRow_nil _ _ _ _⟩, (Below.refl _ _).alloc (Nat.le_refl _) _⟩
set_option maxRecDepth 100000 in
set_option maxHeartbeats 1000000 in
theorem rnew_ok (P : ByteArray) (w : World) (h : newOk P.data.toList = true) :
    Calls Tryd.prog 30 #[.string P] w (RMadeB w P) := by
  simp only [newOk, Bool.and_eq_true, decide_eq_true_eq, List.all_eq_true] at h
  obtain ⟨hl, ha⟩ := h
  have hl2 : P.size ≤ 64 := by rw [Array.length_toList] at hl; exact hl
  have HA := Lib.hid ha
  have HE := Lib.hid (rnew_end P w)
  clear hl ha
  go_enter Tryd.func30, Tryd.ntmps30
  go_wp2_with fail
  go_loop [3] (fun i => ∃ k : Nat, k ≤ P.size ∧ i = .int .i64 k) (fun i => P.size - (intOf i).toNat)
  case atStart => exact ⟨0, Nat.zero_le _, rfl⟩
  case round =>
    obtain ⟨k, hk, rfl⟩ := hrel
    by_cases hlt : k < P.size
    · have hd : decide (k < P.size) = true := decide_eq_true hlt
      have hm := HA.out P[k] (by show P.data[k] ∈ P.data.toList; simp)
      rcases (kval _ _ hm).2 rfl with h6 | ⟨h6, h7⟩
      all_goals
        clear hm
        go_wp2_with fail
        go_round
        case rel => exact ⟨k + 1, by omega, by go_num⟩
        case measure => simp [intOf]; omega
    · obtain rfl : k = P.size := by omega
      have hd : decide (P.size < P.size) = false := by simp
      have hd2 : decide (64 < P.size) = false := decide_eq_false (by omega)
      go_wp2_with fail
      go_ret
      exact HE.out
theorem all_snoc {P : ByteArray} {k : Nat} (hlt : k < P.size) (hp : ∀ b ∈ P.data.toList.take k, (b == 127 || b == 126) = true) (hm : (P[k] == 127 || P[k] == 126) = true) : ∀ b ∈ P.data.toList.take (k + 1), (b == 127 || b == 126) = true := by
  intro b hb
  rw [List.take_succ_eq_append_getElem (by simpa using hlt)] at hb
  rcases List.mem_append.1 hb with hb | hb
  · exact hp b hb
  · rw [List.mem_singleton] at hb
    subst hb
    exact hm
set_option maxRecDepth 100000 in
set_option maxHeartbeats 1000000 in
theorem rnew_bad (P : ByteArray) (w : World) (hs : P.size ≤ maxLen) (h : newOk P.data.toList = false) :
    Calls Tryd.prog 30 #[.string P] w fun e w' => e = .returned (.pointer none) ∧ w = w' := by
  unfold maxLen at hs
  have HN := Lib.hid h
  clear h
  go_enter Tryd.func30, Tryd.ntmps30
  go_wp2_with fail
  go_loop [3] (fun i => ∃ k : Nat, k ≤ P.size ∧ i = .int .i64 k ∧ ∀ b ∈ P.data.toList.take k, (b == 127 || b == 126) = true) (fun i => P.size - (intOf i).toNat)
  case atStart => exact ⟨0, Nat.zero_le _, rfl, by simp⟩
  case round =>
    obtain ⟨k, hk, rfl, hp⟩ := hrel
    have HP := Lib.hid hp
    clear hp
    by_cases hlt : k < P.size
    · have hd : decide (k < P.size) = true := decide_eq_true hlt
      cases hm : (P[k] == 127 || P[k] == 126) with
      | false =>
        obtain ⟨h6, h7⟩ := (kval _ _ hm).1 rfl
        clear hm
        go_wp2_with fail
        go_ret
        exact ⟨rfl, rfl⟩
      | true =>
        have HM := Lib.hid (all_snoc hlt HP.out hm)
        rcases (kval _ _ hm).2 rfl with h6 | ⟨h6, h7⟩
        all_goals
          clear hm
          go_wp2_with fail
          go_round
          case rel => exact ⟨k + 1, by omega, by go_num, HM.out⟩
          case measure => simp [intOf]; omega
    · obtain rfl : k = P.size := by omega
      have hd : decide (P.size < P.size) = false := by simp
      have hd2 : decide ((64 : Int) < (P.size : Int)) = true := decide_eq_true (by
        have h1 := HN.out
        have h2 := HP.out
        rw [List.take_of_length_le (by rw [Array.length_toList]; exact Nat.le_refl _)] at h2
        have h3 : (P.data.toList.all fun b => b == 127 || b == 126) = true := List.all_eq_true.2 h2
        unfold newOk at h1
        rw [h3, Bool.and_true] at h1
        have h4 := of_decide_eq_false h1
        rw [Array.length_toList] at h4
        have : P.data.size = P.size := rfl
        omega)
      go_wp2_with fail
      go_ret
      exact ⟨rfl, rfl⟩
set_option maxRecDepth 100000 in
set_option maxHeartbeats 1000000 in
theorem rlocal_bad (k : UInt8) (w : World) (b : Value) (hk : (k == 127 || k == 126) = false) :
    Calls Tryd.prog 48 #[b, .int .u8 (k.toNat : Int)] w fun e w' => e = .returned (.tuple #[.int .i64 0, .int .i64 1]) ∧ w = w' := by
  obtain ⟨h6, h7⟩ := (kval _ _ hk).1 rfl
  clear hk
  go_enter Tryd.func48, Tryd.ntmps48
  go_wp2_with fail
  go_ret2
  exact ⟨rfl, rfl⟩
theorem conv_one (W : World) (b : Nat) (k : UInt8) (hc : W.cell? ⟨b, 0, none⟩ = some (.int .u8 (k.toNat : Int))) : (convert 46 9 (.slice (some ⟨b, 0, none⟩) 1 1)).run Tryd.prog W = .ok (.string ⟨#[k]⟩) W := by
  have h := run_convert_bytes_arg W 46 5 Tryd.underlying46 Tryd.underlying5 b 0 1 1 [(k.toNat : Int)] (by simp) (fun i hi => by
    obtain rfl : i = 0 := by omega
    exact hc) 9 Tryd.underlying9
  rw [h]
  simp [strOfNums]
theorem RUpd.then {w w' w'' : World} {B bb : Nat} {P : ByteArray} {x : Rx} {s : St} (h : RUpd w B bb P x s w') (hb : Below w'.heap.size w' w'') : RUpd w B bb P x s w'' := by
  obtain ⟨x', h1, h2, h3⟩ := h
  exact RUpd.trans h2 h3 (RUpd.below h1 hb)
theorem bytes_snoc (l : List UInt8) (k : UInt8) : (⟨(l ++ [k]).toArray⟩ : ByteArray) = ⟨l.toArray⟩ ++ ⟨#[k]⟩ := by
  apply ByteArray.ext
  rw [ByteArray.data_append]
  simp
theorem size_list (l : List UInt8) : (⟨l.toArray⟩ : ByteArray).size = l.length := by show l.toArray.size = _; simp
set_option maxRecDepth 100000 in
set_option maxHeartbeats 1000000 in
theorem rlocal_full (k : UInt8) (w : World) (B bb : Nat) (P : ByteArray) (x : Rx) (s : St) (h : RAt w B bb P x s) (hl : s.locals.length = 4000) (hk : (k == 127 || k == 126) = true) :
    Calls Tryd.prog 48 #[.pointer (some ⟨bb, 0, none⟩), .int .u8 (k.toNat : Int)] w fun e w' => e = .returned (.tuple #[.int .i64 0, .int .i64 5]) ∧ w = w' := by
  obtain ⟨cv, ov⟩ := x
  obtain ⟨_, c1, _, _⟩ := h.cells
  obtain ⟨LS, hLS⟩ : ∃ LS : ByteArray, (⟨s.locals.toArray⟩ : ByteArray) = LS := ⟨_, rfl⟩
  have hsz : LS.size = 4000 := by rw [← hLS, size_list, hl]
  rw [hLS] at c1
  clear hLS h hl
  have hd : ((LS.size : Int) == 4000) = true := beq_iff_eq.2 (by omega)
  clear hsz
  rcases (kval _ _ hk).2 rfl with h6 | ⟨h6, h7⟩
  all_goals
    clear hk
    go_enter Tryd.func48, Tryd.ntmps48
    go_wp2_with fail
    go_ret2
    exact ⟨rfl, rfl⟩
set_option maxRecDepth 100000 in
set_option maxHeartbeats 2000000 in
theorem rlocal_ok (k : UInt8) (w : World) (B bb : Nat) (P : ByteArray) (x : Rx) (s : St) (h : RAt w B bb P x s) (hl : s.locals.length < 4000) (hp : s.params ≤ 64) (hk : (k == 127 || k == 126) = true) :
    Calls Tryd.prog 48 #[.pointer (some ⟨bb, 0, none⟩), .int .u8 (k.toNat : Int)] w fun e w' => e = .returned (.tuple #[.int .i64 ((s.params + s.locals.length : Nat) : Int), .int .i64 0]) ∧ RUpd w B bb P x { s with locals := s.locals ++ [k] } w' := by
  obtain ⟨cv, ov⟩ := x
  have H0 := Lib.hid h
  obtain ⟨_, c1, _, _⟩ := h.cells
  obtain ⟨LS, hLS⟩ : ∃ LS : ByteArray, (⟨s.locals.toArray⟩ : ByteArray) = LS := ⟨_, rfl⟩
  have hsz : LS.size = s.locals.length := by rw [← hLS, size_list]
  rw [hLS] at c1
  have hd : ((LS.size : Int) == 4000) = false := beq_eq_false_iff_ne.2 (by omega)
  have HLS := Lib.hid hLS
  have HSZ := Lib.hid hsz
  have hl4 : LS.size < 4000 := by omega
  have hl9 : ¬ 9223372036854775807 < LS.size + 1 := by omega
  clear hLS hsz
  have fz := h.frozen 1
  have hbl : bb < w.heap.size := h.lt
  clear h
  rcases (kval _ _ hk).2 rfl with h6 | ⟨h6, h7⟩
  all_goals
    clear hk
    go_enter Tryd.func48, Tryd.ntmps48
    have cv1 := conv_one (w.alloc (.cells #[.int .u8 (k.toNat : Int)] 5)) w.heap.size k (by simp)
    have cv2 := conv_one (w.alloc (.cells #[.int .u8 (k.toNat : Int)] 5)).drew w.heap.size k (by simp)
    go_upto_region 5 with fail
    go_region
    all_goals
      have hu := H0.out.setLoc (s.locals ++ [k])
      rw [bytes_snoc, HLS.out] at hu
      have hu := (hu.then ((Below.refl _ _).alloc (Nat.le_refl _) (.cells #[.int .u8 (k.toNat : Int)] 5))).drew
      go_upto_region 6 with fail
      clear cv1 cv2 c1 fz
      obtain ⟨W4, hW4⟩ : ∃ W4, ((w.setCell ⟨bb, 1, none⟩ (.string (LS ++ ⟨#[k]⟩))).alloc (.cells #[.int .u8 (k.toNat : Int)] 5)).drew = W4 := ⟨_, rfl⟩
      rw [hW4] at hu ⊢
      clear hW4
      have HU := Lib.hid hu
      obtain ⟨⟨cv4, ov4⟩, hA4, _, _⟩ := hu
      obtain ⟨k0, k1, _, _⟩ := hA4.cells
      have hpar := hA4.par
      change P.size = s.params at hpar
      have hp4 : P.size ≤ 64 := by omega
      have hs4 : (⟨(s.locals ++ [k]).toArray⟩ : ByteArray).size = s.locals.length + 1 := by rw [size_list]; simp
      obtain ⟨LT, hLT⟩ : ∃ LT : ByteArray, (⟨(s.locals ++ [k]).toArray⟩ : ByteArray) = LT := ⟨_, rfl⟩
      rw [hLT] at hs4
      change W4.cell? ⟨bb, 1, none⟩ = some (.string ⟨(s.locals ++ [k]).toArray⟩) at k1
      rw [hLT] at k1
      have hlt5 : LT.size ≤ 4000 := by omega
      have HS4 := Lib.hid hs4
      have HPA := Lib.hid hpar
      clear hLT hA4 hpar hs4
      go_quiet (fail)
      go_wp2_with fail
      go_ret2
      refine ⟨?_, HU.out.drewN nq⟩
      show Ending.returned (.tuple #[.int .i64 ((P.size : Int) + (LT.size : Int) - 1), .int .i64 0]) = _
      rw [show ((P.size : Int) + (LT.size : Int) - 1) = ((s.params + s.locals.length : Nat) : Int) by rw [HS4.out, HPA.out]; omega]
end Go.Proofs.YtlbgbpgjccbbjaaDoor.Asm
