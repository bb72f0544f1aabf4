/-
  The law of limits: what a module with one part turned is; the walk. No condition beyond what each theorem names.
-/
import Derived.Test.YthkdegmnnbepdaaGreatDoorModEx
import Derived.Test.YthkdegmnnbepdaaGreatDoorModOpen
namespace Go.Proofs.YthkdegmnnbepdaaGreatDoor.Mod
open Go.RowKit Go.Maps Go.Proofs.YthkdegmnnbepdaaGreatDoor.Op Go.Proofs.YthkdegmnnbepdaaGreatDoor.Pg
set_option linter.unusedVariables false
/-- a made module, some numbers of it others -/
def modX (ts : List FT) (code : List Ins) (st mx i0 i1 ix : Int) : ModP := ⟨ts, [⟨0, ⟨#[127, 126]⟩, code.map toL⟩], [⟨1, mx⟩], [⟨127, true, i0⟩, ⟨126, true, i1⟩], [⟨⟨#[102]⟩, 0, ix⟩], st, [⟨100, ⟨#[115, 111, 109, 101, 32, 98, 121, 116, 101, 115]⟩⟩]⟩
def oneFT : List FT := [⟨⟨#[126, 127]⟩, ⟨#[126]⟩⟩]
theorem one_at {α : Type} {x0 : α} {i : Nat} {x : α} (hi : [x0][i]? = some x) : i = 0 ∧ x = x0 := by
  match i, hi with
  | 0, hi => exact ⟨rfl, by simpa using hi.symm⟩
  | i + 1, hi => simp at hi
theorem parts_mod {w : World} {B bf bm bg be bd : Nat} {t cv : Value} {ts : List FT} {code : List Ins} {st mx i0 i1 ix : Int}
    (ht : TypesAt w t ts)
    (hf : w.heap[bf]? = some (.cells #[.int .i64 0, .string ⟨#[127, 126]⟩, cv] 33 (0, 0)))
    (hm : w.heap[bm]? = some (.cells #[.int .i64 1, .int .i64 mx] 62 (0, 0)))
    (hg : w.heap[bg]? = some (.cells #[.int .i64 127, .bool true, .int .i64 i0, .int .i64 126, .bool true, .int .i64 i1] 60 (0, 0)))
    (he : w.heap[be]? = some (.cells #[.string ⟨#[102]⟩, .int .i64 0, .int .i64 ix] 58 (0, 0)))
    (hd : w.heap[bd]? = some (.cells #[.int .i64 100, .string ⟨#[115, 111, 109, 101, 32, 98, 121, 116, 101, 115]⟩] 49 (0, 0)))
    (hc : w.ownsRow B 40 4 cv code.length (codeV code)) (wf : ∀ x ∈ code, (Lit.int .i64 x.op).wf = true) (room : code.length ≤ 100000) :
    ModAt w t (slV bf 1) (slV bm 1) (slV bg 2) (slV be 1) st (slV bd 1) (modX ts code st mx i0 i1 ix) := by
  refine ⟨ht, ?_, ?_, ?_, ?_, rfl, ?_⟩
  · refine row_of_block hf _ _ _ rfl (by simp [modX]) (fun i x hi => ?_)
    obtain ⟨rfl, rfl⟩ := one_at hi
    exact ⟨⟨cv, rfl, code_at hc room wf, show (2 : Nat) ≤ _ by decide, by show (code.map toL).length * 48 ≤ _; rw [List.length_map]; omega⟩, rfl⟩
  · refine row_of_block hm _ _ _ rfl (by simp [modX]) (fun i x hi => ?_)
    obtain ⟨rfl, rfl⟩ := one_at hi
    exact ⟨rfl, rfl⟩
  · refine row_of_block hg _ _ _ rfl (by simp [modX]) (fun i x hi => ?_)
    have hi2 : [(⟨127, true, i0⟩ : GlobP), ⟨126, true, i1⟩][i]? = some x := hi
    match i, hi2 with
    | 0, hi2 => obtain rfl := Option.some.inj hi2; exact ⟨rfl, rfl⟩
    | 1, hi2 => obtain rfl := Option.some.inj hi2; exact ⟨rfl, rfl⟩
    | i + 2, hi2 => simp at hi2
  · refine row_of_block he _ _ _ rfl (by simp [modX]) (fun i x hi => ?_)
    obtain ⟨rfl, rfl⟩ := one_at hi
    exact ⟨⟨rfl, (show 1 ≤ 9223372036854775807 by decide)⟩, rfl⟩
  · refine row_of_block hd _ _ _ rfl (by simp [modX]) (fun i x hi => ?_)
    obtain ⟨rfl, rfl⟩ := one_at hi
    exact ⟨⟨rfl, (show 10 ≤ 9223372036854775807 by decide)⟩, rfl⟩
theorem right_modX (ts : List FT) (code : List Ins) (st mx i0 i1 ix : Int) (h1 : structB [] (code.map Ins.op) = true) (h2 : ∀ x ∈ code, okI x = true) :
    rightM (modX ts code st mx i0 i1 ix) = ((st == -1 || wordB st) && (allB ts rightFT && ((mx == -1 || wordB mx) && (i0 == wrap32 i0 && wordB ix)))) := by
  unfold rightM modX
  dsimp only
  rw [one_all _ _ (fn_right code h1 h2), one_all _ rightData (by kernel_rfl)]
  have e1 : allB [(⟨1, mx⟩ : MemP)] rightMem = (mx == -1 || wordB mx) := by
    unfold allB rightMem
    simp [show wordB 1 = true by decide]
  have e2 : allB [(⟨127, true, i0⟩ : GlobP), ⟨126, true, i1⟩] rightGlob = (i0 == wrap32 i0) := by
    unfold allB rightGlob
    simp
  have e3 : allB [(⟨⟨#[102]⟩, 0, ix⟩ : ExpP)] rightExp = wordB ix := by
    unfold allB rightExp
    have : nameB ⟨#[102]⟩ = true := by decide
    simp [this]
  rw [e1, e2, e3]
  simp
/-- a store in a block leaves blocks of other kinds -/
theorem other_block {w : World} {k b : Nat} {cs cs2 : Array Value} {t t2 : TypeId} {f f2 : Nat × Nat} (h : w.heap[k]? = some (.cells cs t f)) (h2 : w.heap[b]? = some (.cells cs2 t2 f2)) (hne : t ≠ t2) (j : Nat) (u : Value) : (w.setCell ⟨b, j, none⟩ u).heap[k]? = some (.cells cs t f) := by
  rw [Below.heap_setCell _ _ _ _ (fun e => ?_)]
  · exact h
  · subst e
    rw [h] at h2
    simp at h2
    exact hne h2.2.1
theorem other_row {w : World} {B b : Nat} {cs2 : Array Value} {t2 e : TypeId} {f2 : Nat × Nat} {size n : Nat} {v : Value} {xs : List Value} (h : w.ownsRow B e size v n xs) (h2 : w.heap[b]? = some (.cells cs2 t2 f2)) (hne : e ≠ t2) (j : Nat) (u : Value) : (w.setCell ⟨b, j, none⟩ u).ownsRow B e size v n xs :=
  ownsRow_of h (fun k hk => Below.heap_setCell _ _ _ _ (fun e1 => kind_ne h h2 hne (by rw [hk, e1])))
theorem ListAt.take {α : Type} {size : Nat} {R : World → List Value → α → Prop} {w : World} {la : Option Addr} {n c : Nat} {l : List α} (h : ListAt size R w (.slice la n c) l) (k m : Nat) (hm : m = (l.take k).length) : ListAt size R w (.slice la m c) (l.take k) := by
  obtain ⟨la', c', hv, hle, hx⟩ := h.form
  simp only [Value.slice.injEq] at hv
  obtain ⟨rfl, _, rfl⟩ := hv
  subst hm
  refine ListAt.mk (by rw [List.length_take]; omega) (fun i x hi => hx i x ?_)
  rw [List.getElem?_take] at hi
  split at hi
  · exact hi
  · cases hi
end Go.Proofs.YthkdegmnnbepdaaGreatDoor.Mod
