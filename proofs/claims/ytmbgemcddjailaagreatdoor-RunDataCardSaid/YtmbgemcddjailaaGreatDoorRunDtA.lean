/-
  The module of RunData, told plainly. No condition beyond what each theorem names.
-/
import Derived.Test.YtmbgemcddjailaaGreatDoorRnZ
import Derived.Test.YtmbgemcddjailaaGreatDoorRunGlA
namespace Go.Proofs.YtmbgemcddjailaaGreatDoor.Run
open Go.RowKit Go.Maps Go.Lib Go.Proofs.YtmbgemcddjailaaGreatDoor.Op Go.Proofs.YtmbgemcddjailaaGreatDoor.Mod Go.Proofs.YtmbgemcddjailaaGreatDoor.Pg Go.Proofs.YtmbgemcddjailaaGreatDoor.Vld
set_option linter.unusedVariables false
def dM (x far : Int) (a b : ByteArray) : ModP := ⟨[], [], [⟨1, 1⟩], [], [], -1, [⟨x, a⟩, ⟨far, b⟩]⟩
theorem d_valid (x far : Int) (a b : ByteArray) (hx : 0 ≤ x ∧ x < 65536) (hf : -2147483648 ≤ far ∧ far < 2147483648) : moduleE (dM x far a b) = 0 := by
  have h1 : wrap32 x = x := by unfold wrap32; omega
  have h2 : wrap32 far = far := by unfold wrap32; omega
  have hR : rightM (dM x far a b) = true := by
    unfold rightM dM allB
    simp [rightMem, rightData, h1, h2, wordB]
  unfold moduleE
  rw [hR, if_neg (by decide)]
  rfl
theorem d_room (x far : Int) (a b : ByteArray) (ha : a.size ≤ 100) (hb : b.size ≤ 100) : ModRoom (dM x far a b) := by
  refine ⟨⟨by simp [dM], fun x hx => ?_⟩, ⟨by simp [dM], fun x hx => ?_⟩, by simp [dM], by simp [dM], ⟨by simp [dM], fun x hx => ?_⟩, ⟨by simp [dM], fun x hx => ?_⟩⟩
  · cases hx
  · cases hx
  · cases hx
  · simp only [dM, List.mem_cons, List.not_mem_nil, or_false] at hx
    rcases hx with rfl | rfl <;> (dsimp only; omega)
theorem d_data (x far : Int) (a b : ByteArray) (ha : a.size ≤ 100) (hb : b.size ≤ 100) : ∀ y ∈ (dM x far a b).data, y.bytes.size ≤ 1000000 := fun y hy => by
  simp only [dM, List.mem_cons, List.not_mem_nil, or_false] at hy
  rcases hy with rfl | rfl <;> (dsimp only; omega)
/-- what the memory holds -/
def dL (x y : Nat) (a b : ByteArray) : List UInt8 := putL (putL zeroL x a.data.toList) y b.data.toList
theorem d_mem (x y : Nat) (far : Int) (a b : ByteArray) (hx : x < 65536) (hy : offN far = y) : memO (dM (x : Int) far a b) = if x + a.size ≤ 65536 ∧ y + b.size ≤ 65536 then some (some (dL x y a b)) else none := by
  have h1 : offN (x : Int) = x := by unfold offN; omega
  unfold memO
  rw [if_neg (by simp [dM])]
  unfold dM
  simp only [dataL, h1, hy]
  by_cases c1 : x + a.size ≤ 65536
  · by_cases c2 : y + b.size ≤ 65536
    · rw [if_pos c1, if_pos c2, if_pos ⟨c1, c2⟩]
      rfl
    · rw [if_pos c1, if_neg c2, if_neg (fun h => c2 h.2)]
      rfl
  · rw [if_neg c1, if_neg (fun h => c1 h.1)]
    rfl
theorem cut_put (l : List UInt8) (k : Nat) (b : ByteArray) (h : k + b.size ≤ l.length) : cutL (putL l k b.data.toList) k b.size = b := by
  have hb : b.size = b.data.toList.length := rfl
  unfold cutL putL
  rw [List.drop_append_of_le_length (by rw [List.length_take]; omega), List.drop_of_length_le (by rw [List.length_take]; omega), List.nil_append, hb, List.take_left']
  · rfl
theorem d_cut (x y : Nat) (a b : ByteArray) (h : x + a.size ≤ 65536 ∧ y + b.size ≤ 65536) : cutL (dL x y a b) y b.size = b := by
  unfold dL
  refine cut_put _ _ _ ?_
  rw [putL_len (by rw [zeroL_len]; exact h.1), zeroL_len]
  exact h.2
/-- how the module lies -/
structure DAt (W : World) (x far : Int) (a b : ByteArray) (bm bd : Nat) : Prop where
  hm : W.heap[bm]? = some (.cells #[.int .i64 1, .int .i64 1] 55 (0, 0))
  hd : W.heap[bd]? = some (.cells #[.int .i64 x, .string a, .int .i64 far, .string b] 57 (0, 0))
theorem DAt.mod {W : World} {x far : Int} {a b : ByteArray} {bm bd : Nat} (h : DAt W x far a b bm bd) (ha : a.size ≤ 100) (hb : b.size ≤ 100) : ModAt W (.slice none 0 0) (.slice none 0 0) (.slice (some ⟨bm, 0, none⟩) 1 1) (.slice none 0 0) (.slice none 0 0) (-1) (.slice (some ⟨bd, 0, none⟩) 2 2) (dM x far a b) := by
  refine ⟨list_nil W, list_nil W, ?_, list_nil W, list_nil W, rfl, ?_⟩
  · refine row_at h.hm _ _ _ rfl (by simp [dM]) (fun i x hi => ?_)
    obtain ⟨rfl, rfl⟩ := one_of hi
    exact ⟨rfl, rfl⟩
  · refine row_at h.hd _ _ _ rfl (by simp [dM]) (fun i z hi => ?_)
    match i, hi with
    | 0, hi => obtain rfl := Option.some.inj hi; exact ⟨⟨rfl, show a.size ≤ _ by omega⟩, rfl⟩
    | 1, hi => obtain rfl := Option.some.inj hi; exact ⟨⟨rfl, show b.size ≤ _ by omega⟩, rfl⟩
    | i + 2, hi => simp [dM] at hi
end Go.Proofs.YtmbgemcddjailaaGreatDoor.Run
