/-
  The machine of RunGlobals. No condition beyond what each theorem names.
-/
import Derived.Test.YtmbgemcddjailaaGreatDoorRnZ
namespace Go.Proofs.YtmbgemcddjailaaGreatDoor.Run
open Go.RowKit Go.Maps Go.Lib Go.Proofs.YtmbgemcddjailaaGreatDoor.Op Go.Proofs.YtmbgemcddjailaaGreatDoor.Mod Go.Proofs.YtmbgemcddjailaaGreatDoor.Pg
set_option linter.unusedVariables false
def gK : List InsL := [⟨35, 0, 0, []⟩, ⟨32, 0, 0, []⟩, ⟨36, 0, 0, []⟩, ⟨11, 0, 0, []⟩]
def gF : FuncP := ⟨0, ⟨#[]⟩, gK⟩
def gT : FT := ⟨⟨#[126]⟩, ⟨#[126]⟩⟩
def gM : ModP := ⟨[gT], [gF], [], [⟨126, true, 5⟩], [], -1, []⟩
/-- how the module lies: each slice a block of its own -/
structure GAt (W : World) (bt bi bf bg : Nat) : Prop where
  ht : W.heap[bt]? = some (.cells #[.string ⟨#[126]⟩, .string ⟨#[126]⟩] 25 (0, 0))
  hi : W.heap[bi]? = some (.cells #[.int .i64 35, .int .i64 0, .int .i64 0, .slice none 0 0, .int .i64 32, .int .i64 0, .int .i64 0, .slice none 0 0, .int .i64 36, .int .i64 0, .int .i64 0, .slice none 0 0, .int .i64 11, .int .i64 0, .int .i64 0, .slice none 0 0] 29 (0, 0))
  hf : W.heap[bf]? = some (.cells #[.int .i64 0, .string ⟨#[]⟩, .slice (some ⟨bi, 0, none⟩) 4 4] 32 (0, 0))
  hg : W.heap[bg]? = some (.cells #[.int .i64 126, .bool true, .int .i64 5] 35 (0, 0))
theorem GAt.later {W W' : World} {bt bi bf bg : Nat} (h : GAt W bt bi bf bg) (hb : Below W.heap.size W W') : GAt W' bt bi bf bg :=
  ⟨(hb.block _ (Array.getElem?_eq_some_iff.1 h.ht).1).trans h.ht, (hb.block _ (Array.getElem?_eq_some_iff.1 h.hi).1).trans h.hi, (hb.block _ (Array.getElem?_eq_some_iff.1 h.hf).1).trans h.hf, (hb.block _ (Array.getElem?_eq_some_iff.1 h.hg).1).trans h.hg⟩
theorem row_at {α : Type} {w : World} {b : Nat} {cs : Array Value} {t : TypeId} {size : Nat} {R : World → List Value → α → Prop} (h : w.heap[b]? = some (.cells cs t (0, 0))) (l : List α) (n c : Nat) (hn : n = l.length) (hl : l.length ≤ 9223372036854775807)
    (hx : ∀ i x, l[i]? = some x → R w ((cs.toList.drop (i * size)).take size) x ∧ ((cs.toList.drop (i * size)).take size).length = size) : ListAt size R w (.slice (some ⟨b, 0, none⟩) n c) l := by
  subst hn
  refine ListAt.mk hl (fun i x hi => ?_)
  obtain ⟨h1, h2⟩ := hx i x hi
  refine ⟨_, h1, h2, b, 0, rfl, (Array.getElem?_eq_some_iff.1 h).1, fun j u hu => ?_⟩
  rw [cell_of_row w b _ _ _ _ h, Nat.zero_add]
  have hj : j < size := by have := (List.getElem?_eq_some_iff.1 hu).1; omega
  rw [List.getElem?_take_of_lt hj, List.getElem?_drop] at hu
  rw [← Array.getElem?_toList]
  exact hu
theorem one_of {α : Type} {x0 : α} {i : Nat} {x : α} (hi : [x0][i]? = some x) : i = 0 ∧ x = x0 := by
  match i, hi with
  | 0, hi => exact ⟨rfl, by simpa using hi.symm⟩
  | i + 1, hi => simp at hi
/-- an instruction without labels -/
theorem ins_row {W : World} (o a b : Int) (ho : (Lit.int .i64 o).wf = true) : isIns W [.int .i64 o, .int .i64 a, .int .i64 b, .slice none 0 0] ⟨o, a, b, []⟩ := ⟨.slice none 0 0, rfl, .inl ⟨rfl, rfl⟩, ho⟩
theorem GAt.code {W : World} {bt bi bf bg : Nat} (h : GAt W bt bi bf bg) : CodeAt W (.slice (some ⟨bi, 0, none⟩) 4 4) gK := by
  refine row_at h.hi _ _ _ rfl (by decide) (fun i x hi => ?_)
  match i, hi with
  | 0, hi => obtain rfl := Option.some.inj hi; exact ⟨ins_row _ _ _ (by decide), rfl⟩
  | 1, hi => obtain rfl := Option.some.inj hi; exact ⟨ins_row _ _ _ (by decide), rfl⟩
  | 2, hi => obtain rfl := Option.some.inj hi; exact ⟨ins_row _ _ _ (by decide), rfl⟩
  | 3, hi => obtain rfl := Option.some.inj hi; exact ⟨ins_row _ _ _ (by decide), rfl⟩
  | i + 4, hi => simp [gK] at hi
theorem GAt.mod {W : World} {bt bi bf bg : Nat} (h : GAt W bt bi bf bg) : ModAt W (.slice (some ⟨bt, 0, none⟩) 1 1) (.slice (some ⟨bf, 0, none⟩) 1 1) (.slice none 0 0) (.slice (some ⟨bg, 0, none⟩) 1 1) (.slice none 0 0) (-1) (.slice none 0 0) gM := by
  refine ⟨?_, ?_, list_nil W, ?_, list_nil W, rfl, list_nil W⟩
  · refine row_at h.ht _ _ _ rfl (by decide) (fun i x hi => ?_)
    obtain ⟨rfl, rfl⟩ := one_of hi
    exact ⟨⟨rfl, by decide, by decide⟩, rfl⟩
  · refine row_at h.hf _ _ _ rfl (by decide) (fun i x hi => ?_)
    obtain ⟨rfl, rfl⟩ := one_of hi
    exact ⟨⟨_, rfl, h.code, show (0 : Nat) ≤ _ by decide, show 4 * 48 ≤ _ by decide⟩, rfl⟩
  · refine row_at h.hg _ _ _ rfl (by decide) (fun i x hi => ?_)
    obtain ⟨rfl, rfl⟩ := one_of hi
    exact ⟨rfl, rfl⟩
theorem g_room : ModRoom gM := by
  refine ⟨⟨by decide, fun x hx => ?_⟩, ⟨by decide, fun x hx => ?_⟩, by decide, by decide, ⟨by decide, fun x hx => ?_⟩, ⟨by decide, fun x hx => ?_⟩⟩
  · obtain rfl := List.mem_singleton.1 hx; exact ⟨by decide, by decide⟩
  · obtain rfl := List.mem_singleton.1 hx; exact ⟨by decide, by decide, fun y hy => by simp only [gF, gK, List.mem_cons, List.not_mem_nil, or_false] at hy; rcases hy with rfl | rfl | rfl | rfl <;> decide⟩
  · cases hx
  · cases hx
theorem g_mem : memO gM = some none := by unfold memO; rw [if_pos (show gM.memory = [] from rfl)]
theorem g_glob : globL gM = [5] := by decide
theorem g_flat : ∀ F ∈ gM.funcs, Flat F.code ∧ F.code.length ≤ 1000000 := fun F hF => by
  obtain rfl := List.mem_singleton.1 hF
  refine ⟨fun x hx => ?_, by decide⟩
  simp only [gF, gK, List.mem_cons, List.not_mem_nil, or_false] at hx
  rcases hx with rfl | rfl | rfl | rfl <;> decide
def gS (g a : Nat) : Nat → Th
  | 0 => startT gF gT [a] 4
  | 1 => { nextT (startT gF gT [a] 4) 3 with stack := [g] }
  | 2 => { nextT { nextT (startT gF gT [a] 4) 3 with stack := [g] } 2 with stack := [g, a] }
  | _ => { nextT { nextT { nextT (startT gF gT [a] 4) 3 with stack := [g] } 2 with stack := [g, a] } 1 with stack := [g] }
def gG (g a : Nat) (k : Nat) : List Nat := if k < 3 then [g] else [a]
/-- the global is answered, the argument stands in its place -/
theorem g_call (w : World) (K : Mk) (g : Nat) (hM : MAt w w.heap.size K [g]) (hm : K.m = gM) (a : Nat) (ha : a < 18446744073709551616) (ab : Nat) (h0 : w.cell? ⟨ab, 0, none⟩ = some (.int .u64 (a : Int))) :
    Calls Tryz.prog 7 #[.pointer (some ⟨K.R, 0, none⟩), .int .i64 0, .slice (some ⟨ab, 0, none⟩) 1 1, .int .i64 4] w fun e w' => ∃ sv, e = .returned (.tuple #[sv, .int .i64 0, .int .i64 0]) ∧ CallZ w K [a] [g] w' sv := by
  have hA : Ask w K [g] 0 gF gT [a] 4 ab 0 := by
    refine ⟨hM, by rw [hm]; rfl, ⟨0, rfl, by rw [hm]; rfl⟩, rfl, by simp, by simp, fun x hx => by obtain rfl := List.mem_singleton.1 hx; exact ha, by decide, by decide, by decide, by rw [hm]; decide, by rw [hm]; decide, fun j x hx => ?_⟩
    obtain ⟨rfl, rfl⟩ := one_of hx
    exact h0
  refine call_run w K [g] 0 gF gT [a] 4 ab 0 1 hA 3 (gS g a) (gG g a) [a] [g] 0 rfl rfl (fun k hk => ?_) (fun E hE B tb k hk => ?_) (fun E hE B tb W x hS => ?_)
  · match k, hk with
    | 0, _ => rfl
    | 1, _ => rfl
    | 2, _ => rfl
    | 3, _ => rfl
    | k + 4, hk => omega
  · match k, hk with
    | 0, _ => exact step_35 (t := gS g a 0) (n := 3) (b := 0) (l := []) 0 (at_of hE rfl (by decide) (by decide) rfl) (show 0 < 4096 by decide) g rfl (show 1 < _ by decide)
    | 1, _ => exact step_32 (t := gS g a 1) (n := 2) (b := 0) (l := []) 0 (at_of hE rfl (by decide) (by decide) rfl) (show 1 < 4096 by decide) a rfl (show 1 < _ by decide)
    | 2, _ => exact step_36 (t := gS g a 2) (n := 1) (b := 0) (l := []) 0 (at_of hE rfl (by decide) (by decide) rfl) [g] a rfl (show 1 < _ by decide) (show 0 < 1 by decide) (show 1 < _ by decide)
    | k + 3, hk => omega
  · have h := step_end (t := gS g a 3) (n := 0) (a := 0) (b := 0) (l := []) (gs := [a]) (B := B) (tb := tb) (at_of hE rfl (by decide) (by decide) rfl) rfl (by rw [hE.2.1]; decide) (by rw [hE.1, hE.2.1]; show 0 + 1 ≤ 1; decide) (show 1 < _ by decide) rfl W x hS
    rw [hE.1, hE.2.1] at h
    exact h
set_option maxRecDepth 100000 in
/-- a global of a machine whose cells alone are known -/
theorem global_row {w : World} {R B : Nat} {gv : Value} {gs : List Nat} (c8 : w.cell? ⟨R, 8, none⟩ = some gv) (hg : w.ownsRow B 22 1 gv gs.length (natsV gs)) (k n : Nat) (hk : gs[k]? = some n) (hl : gs.length ≤ 1000000) :
    Calls Tryz.prog 8 #[.pointer (some ⟨R, 0, none⟩), .int .i64 (k : Int)] w fun e w' => e = .returned (.tuple #[.int .u64 (n : Int), .bool true]) ∧ Below w.heap.size w w' := by
  have hlt := (List.getElem?_eq_some_iff.1 hk).1
  obtain ⟨a, cap, hx, hcap, hform⟩ := nats_form hg
  obtain ⟨gb, rfl, _, _, hat, _⟩ := hform (by omega)
  rw [hx] at c8
  have ct := hat k n hk
  have d1 : decide ((k : Int) < 0) = false := decide_eq_false (by omega)
  have d2 : decide (gs.length ≤ k) = false := decide_eq_false (by omega)
  have hi0 : (0 : Int) ≤ (k : Int) := by omega
  have hi1 : (k : Int) < (gs.length : Int) := by omega
  clear hg hx hform hat hk
  go_enter Tryz.func8, Tryz.ntmps8
  go_wp2_with fail
  go_ret2
  exact ⟨rfl, Below.refl _ _⟩
end Go.Proofs.YtmbgemcddjailaaGreatDoor.Run
