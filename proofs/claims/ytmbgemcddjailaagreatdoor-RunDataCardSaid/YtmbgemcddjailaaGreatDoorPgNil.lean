/-
  What made answers of no steps. No condition beyond what each theorem names.
-/
import Derived.Test.YtmbgemcddjailaaGreatDoorPgC
import Derived.Test.YtmbgemcddjailaaGreatDoorPgS
namespace Go.Proofs.YtmbgemcddjailaaGreatDoor.Pg
open Go.RowKit Go.Maps Go.Proofs.YtmbgemcddjailaaGreatDoor.Op Go.Proofs.YtmbgemcddjailaaGreatDoor.Mod
set_option linter.unusedVariables false
/-- how it lies: each slice a block of its own -/
structure MadeAt (w : World) (B : Nat) (bt bf bm bg be bd : Nat) (cv : Value) (code : List Ins) : Prop where
  ht : w.heap[bt]? = some (.cells #[.string ⟨#[126, 127]⟩, .string ⟨#[126]⟩] 25 (0, 0))
  hf : w.heap[bf]? = some (.cells #[.int .i64 0, .string ⟨#[127, 126]⟩, cv] 32 (0, 0))
  hm : w.heap[bm]? = some (.cells #[.int .i64 1, .int .i64 2] 55 (0, 0))
  hg : w.heap[bg]? = some (.cells #[.int .i64 127, .bool true, .int .i64 5, .int .i64 126, .bool true, .int .i64 (-5)] 35 (0, 0))
  he : w.heap[be]? = some (.cells #[.string ⟨#[102]⟩, .int .i64 0, .int .i64 0] 98 (0, 0))
  hd : w.heap[bd]? = some (.cells #[.int .i64 100, .string ⟨#[115, 111, 109, 101, 32, 98, 121, 116, 101, 115]⟩] 57 (0, 0))
  hc : w.ownsRow B 29 4 cv code.length (codeV code)
  low : B ≤ bt ∧ B ≤ bf ∧ B ≤ bm ∧ B ≤ bg ∧ B ≤ be ∧ B ≤ bd
  wf : ∀ x ∈ code, (Lit.int .i64 x.op).wf = true
  room : code.length ≤ 100000
def slV (b n : Nat) : Value := .slice (some ⟨b, 0, none⟩) n n
def madeV (bt bf bm bg be bd : Nat) : Value := modV (slV bt 1) (slV bf 1) (slV bm 1) (slV bg 2) (slV be 1) (-1) (slV bd 1)
theorem MadeAt.later {w w' : World} {B bt bf bm bg be bd : Nat} {cv : Value} {code : List Ins} (h : MadeAt w B bt bf bm bg be bd cv code) (hb : Below w.heap.size w w') : MadeAt w' B bt bf bm bg be bd cv code := by
  have hlt : ∀ {k : Nat} {cs : Array Value} {t : TypeId}, w.heap[k]? = some (Obj.cells cs t (0, 0)) → w'.heap[k]? = some (Obj.cells cs t (0, 0)) := fun hk => (hb.block _ (Array.getElem?_eq_some_iff.1 hk).1).trans hk
  exact ⟨hlt h.ht, hlt h.hf, hlt h.hm, hlt h.hg, hlt h.he, hlt h.hd, ownsRow_of h.hc (fun k hk => hb.block k (h.hc.lt k hk).2), h.low, h.wf, h.room⟩
theorem row_of_block {α : Type} {w : World} {b : Nat} {cs : Array Value} {t : TypeId} {size : Nat} {R : World → List Value → α → Prop} (h : w.heap[b]? = some (.cells cs t (0, 0))) (l : List α) (n c : Nat) (hn : n = l.length) (hl : l.length ≤ 9223372036854775807)
    (hx : ∀ i x, l[i]? = some x → R w ((cs.toList.drop (i * size)).take size) x ∧ ((cs.toList.drop (i * size)).take size).length = size) : ListAt size R w (.slice (some ⟨b, 0, none⟩) n c) l := by
  subst hn
  refine ListAt.mk hl (fun i x hi => ?_)
  obtain ⟨h1, h2⟩ := hx i x hi
  refine ⟨_, h1, h2, b, 0, rfl, (Array.getElem?_eq_some_iff.1 h).1, fun j u hu => ?_⟩
  rw [cell_of_row w b _ _ _ _ h, Nat.zero_add]
  have hj : j < size := by have := (List.getElem?_eq_some_iff.1 hu).1; omega
  rw [List.getElem?_take_of_lt hj, List.getElem?_drop] at hu
  rw [← Array.getElem?_toList]
  exact hu
theorem code_at {w : World} {B : Nat} {cv : Value} {code : List Ins} (h : w.ownsRow B 29 4 cv code.length (codeV code)) (hr : code.length ≤ 100000) (hwf : ∀ x ∈ code, (Lit.int .i64 x.op).wf = true) : CodeAt w cv (code.map toL) := by
  rcases h.2 with ⟨h1, h2⟩ | ⟨g, cap, cur, h1, _⟩
  · have he : code = [] := List.eq_nil_of_length_eq_zero h2
    subst he
    rw [h1]
    exact ListAt.mk (l := ([] : List InsL)) (Nat.zero_le _) (fun i x hi => by cases i <;> cases hi)
  · subst h1
    have hlen : code.length = (code.map toL).length := by simp
    rw [hlen]
    refine ListAt.mk (by rw [← hlen]; omega) (fun i x hi => ?_)
    rw [List.getElem?_map, Option.map_eq_some_iff] at hi
    obtain ⟨y, hy, rfl⟩ := hi
    refine ⟨y.cells, ⟨.slice none 0 0, rfl, .inl ⟨rfl, rfl⟩, hwf y (List.mem_of_getElem? hy)⟩, rfl, g, 0, rfl, (h.lt g rfl).2, fun j u hu => ?_⟩
    have hj : j < 4 := by have := (List.getElem?_eq_some_iff.1 hu).1; simpa [Ins.cells] using this
    have hlt := (List.getElem?_eq_some_iff.1 hy).1
    rw [Nat.zero_add, h.cellAt _ (by omega), codeV_at code i j y hy hj]
    exact hu
theorem MadeAt.mod {w : World} {B bt bf bm bg be bd : Nat} {cv : Value} {code : List Ins} (h : MadeAt w B bt bf bm bg be bd cv code) : ModAt w (slV bt 1) (slV bf 1) (slV bm 1) (slV bg 2) (slV be 1) (-1) (slV bd 1) (modOf code) := by
  have one : ∀ {α : Type} {x0 : α} {i : Nat} {x : α}, [x0][i]? = some x → i = 0 ∧ x = x0 := fun {α x0 i x} hi => by
    match i, hi with
    | 0, hi => exact ⟨rfl, by simpa using hi.symm⟩
    | i + 1, hi => simp at hi
  refine ⟨?_, ?_, ?_, ?_, ?_, rfl, ?_⟩
  · refine row_of_block h.ht _ _ _ rfl (by simp [modOf]) (fun i x hi => ?_)
    obtain ⟨rfl, rfl⟩ := one hi
    exact ⟨⟨rfl, by decide, by decide⟩, rfl⟩
  · refine row_of_block h.hf _ _ _ rfl (by simp [modOf]) (fun i x hi => ?_)
    obtain ⟨rfl, rfl⟩ := one hi
    exact ⟨⟨cv, rfl, code_at h.hc h.room h.wf, show (2 : Nat) ≤ _ by decide, by have := h.room; show (code.map toL).length * 48 ≤ _; rw [List.length_map]; omega⟩, rfl⟩
  · refine row_of_block h.hm _ _ _ rfl (by simp [modOf]) (fun i x hi => ?_)
    obtain ⟨rfl, rfl⟩ := one hi
    exact ⟨rfl, rfl⟩
  · refine row_of_block h.hg _ _ _ rfl (by simp [modOf]) (fun i x hi => ?_)
    have hi2 : [(⟨127, true, 5⟩ : GlobP), ⟨126, true, -5⟩][i]? = some x := hi
    match i, hi2 with
    | 0, hi2 => obtain rfl := Option.some.inj hi2; exact ⟨rfl, rfl⟩
    | 1, hi2 => obtain rfl := Option.some.inj hi2; exact ⟨rfl, rfl⟩
    | i + 2, hi2 => simp at hi2
  · refine row_of_block h.he _ _ _ rfl (by simp [modOf]) (fun i x hi => ?_)
    obtain ⟨rfl, rfl⟩ := one hi
    exact ⟨⟨rfl, by decide⟩, rfl⟩
  · refine row_of_block h.hd _ _ _ rfl (by simp [modOf]) (fun i x hi => ?_)
    obtain ⟨rfl, rfl⟩ := one hi
    exact ⟨⟨rfl, by decide⟩, rfl⟩
theorem six_new (W : World) (o0 o1 o2 o3 o4 o5 : Obj) : ∀ WF, ((((((W.alloc o0).alloc o1).alloc o2).alloc o3).alloc o4).alloc o5) = WF → WF.heap[W.heap.size]? = some o0 ∧ WF.heap[W.heap.size + 1]? = some o1 ∧ WF.heap[W.heap.size + 1 + 1]? = some o2 ∧ WF.heap[W.heap.size + 1 + 1 + 1]? = some o3 ∧ WF.heap[W.heap.size + 1 + 1 + 1 + 1]? = some o4 ∧ WF.heap[W.heap.size + 1 + 1 + 1 + 1 + 1]? = some o5 ∧ Below W.heap.size W WF := by
  rintro WF rfl
  have b : Below W.heap.size W ((((((W.alloc o0).alloc o1).alloc o2).alloc o3).alloc o4).alloc o5) := ((((((Below.refl _ _).alloc (Nat.le_refl _) o0).alloc (by simp) o1).alloc (by simp; omega) o2).alloc (by simp; omega) o3).alloc (by simp; omega) o4).alloc (by simp; omega) o5
  have key : ∀ (V : World) (n : Nat) (o : Obj), V.heap.size = n → (V.alloc o).heap[n]? = some o := fun V n o h => by subst h; exact heap_alloc_new V o
  have old : ∀ (V : World) (n : Nat) (o q : Obj), V.heap[n]? = some q → (V.alloc o).heap[n]? = some q := fun V n o q h => (Below.heap_alloc V o n (Array.getElem?_eq_some_iff.1 h).1).trans h
  refine ⟨?_, ?_, ?_, ?_, ?_, ?_, b⟩
  · exact old _ _ _ _ (old _ _ _ _ (old _ _ _ _ (old _ _ _ _ (old _ _ _ _ (key _ _ _ rfl)))))
  · exact old _ _ _ _ (old _ _ _ _ (old _ _ _ _ (old _ _ _ _ (key _ _ _ (by simp)))))
  · exact old _ _ _ _ (old _ _ _ _ (old _ _ _ _ (key _ _ _ (by simp))))
  · exact old _ _ _ _ (old _ _ _ _ (key _ _ _ (by simp)))
  · exact old _ _ _ _ (key _ _ _ (by simp))
  · exact key _ _ _ (by simp)
theorem box_set' {w : World} {bb : Nat} {cs ds : Array Value} {t : TypeId} (h : w.heap[bb]? = some (.cells cs t (0, 0))) (j : Nat) (u : Value) (hd : cs.setIfInBounds j u = ds) : (w.setCell ⟨bb, j, none⟩ u).heap[bb]? = some (.cells ds t (0, 0)) := by
  rw [← hd]
  exact box_set h j u
theorem seven_set {W : World} {b : Nat} {t : TypeId} {c0 c1 c2 c3 c4 c5 c6 : Value} (h : W.heap[b]? = some (.cells #[c0, c1, c2, c3, c4, c5, c6] t (0, 0))) (v0 v1 v2 v3 v4 v5 v6 : Value) : ∀ WF, (((((((W.setCell ⟨b, 0, none⟩ v0).setCell ⟨b, 1, none⟩ v1).setCell ⟨b, 2, none⟩ v2).setCell ⟨b, 3, none⟩ v3).setCell ⟨b, 4, none⟩ v4).setCell ⟨b, 5, none⟩ v5).setCell ⟨b, 6, none⟩ v6) = WF → WF.heap[b]? = some (.cells #[v0, v1, v2, v3, v4, v5, v6] t (0, 0)) ∧ WF.heap.size = W.heap.size ∧ Keeps (fun k => k = b) W WF := by
  intro WF hWF
  have one : ∀ (V : World) (cs ds : Array Value) (j : Nat) (u : Value), V.heap[b]? = some (.cells cs t (0, 0)) → cs.setIfInBounds j u = ds → V.heap.size = W.heap.size → Keeps (fun k => k = b) W V → (V.setCell ⟨b, j, none⟩ u).heap[b]? = some (.cells ds t (0, 0)) ∧ (V.setCell ⟨b, j, none⟩ u).heap.size = W.heap.size ∧ Keeps (fun k => k = b) W (V.setCell ⟨b, j, none⟩ u) := fun V cs ds j u h1 h2 h3 h4 =>
    ⟨box_set' h1 j u h2, by rw [← h3]; simp [World.setCell], h4.trans (Keeps.setCell (F := fun k => k = b) V _ _ rfl) (fun j hj => .inl hj)⟩
  obtain ⟨W1, hW1⟩ : ∃ W1, W.setCell ⟨b, 0, none⟩ v0 = W1 := ⟨_, rfl⟩
  have g1 := one W _ #[v0, c1, c2, c3, c4, c5, c6] 0 v0 h rfl rfl (.refl _ _)
  rw [hW1] at g1 hWF
  obtain ⟨W2, hW2⟩ : ∃ W2, W1.setCell ⟨b, 1, none⟩ v1 = W2 := ⟨_, rfl⟩
  have g2 := one W1 _ #[v0, v1, c2, c3, c4, c5, c6] 1 v1 g1.1 rfl g1.2.1 g1.2.2
  rw [hW2] at g2 hWF
  obtain ⟨W3, hW3⟩ : ∃ W3, W2.setCell ⟨b, 2, none⟩ v2 = W3 := ⟨_, rfl⟩
  have g3 := one W2 _ #[v0, v1, v2, c3, c4, c5, c6] 2 v2 g2.1 rfl g2.2.1 g2.2.2
  rw [hW3] at g3 hWF
  obtain ⟨W4, hW4⟩ : ∃ W4, W3.setCell ⟨b, 3, none⟩ v3 = W4 := ⟨_, rfl⟩
  have g4 := one W3 _ #[v0, v1, v2, v3, c4, c5, c6] 3 v3 g3.1 rfl g3.2.1 g3.2.2
  rw [hW4] at g4 hWF
  obtain ⟨W5, hW5⟩ : ∃ W5, W4.setCell ⟨b, 4, none⟩ v4 = W5 := ⟨_, rfl⟩
  have g5 := one W4 _ #[v0, v1, v2, v3, v4, c5, c6] 4 v4 g4.1 rfl g4.2.1 g4.2.2
  rw [hW5] at g5 hWF
  obtain ⟨W6, hW6⟩ : ∃ W6, W5.setCell ⟨b, 5, none⟩ v5 = W6 := ⟨_, rfl⟩
  have g6 := one W5 _ #[v0, v1, v2, v3, v4, v5, c6] 5 v5 g5.1 rfl g5.2.1 g5.2.2
  rw [hW6] at g6 hWF
  have g7 := one W6 _ #[v0, v1, v2, v3, v4, v5, v6] 6 v6 g6.1 rfl g6.2.1 g6.2.2
  rw [hWF] at g7
  exact g7
def nilx : Px := ⟨.slice none 0 0, .slice none 0 0, .slice none 0 0⟩
/-- what stands in the result's block at first -/
def zeroMod : Array Value := #[.slice none 0 0, .slice none 0 0, .slice none 0 0, .slice none 0 0, .slice none 0 0, .int .i64 0, .slice none 0 0]
theorem shutAll_zero {s : St} (h : s.opens = []) (n : Nat) : shutAll n s = s := by
  cases n with
  | zero => rfl
  | succ n => show (match s.opens.getLast? with | none => s | some b => shutAll n (shutP s b)) = s; rw [h]; rfl
theorem shutAll_inv : ∀ (k : Nat) (s : St) (n : Nat), Inv s n → s.opens.length = k → Inv (shutAll k s) n ∧ (shutAll k s).opens = []
  | 0, s, n, h, hk => ⟨h, List.eq_nil_of_length_eq_zero hk⟩
  | k + 1, s, n, h, hk => by
    obtain ⟨b, hb⟩ : ∃ b, s.opens.getLast? = some b := by
      cases hq : s.opens.getLast? with
      | none => rw [List.getLast?_eq_none_iff.1 hq] at hk; simp at hk
      | some b => exact ⟨b, rfl⟩
    rw [shutAll_last hb]
    obtain ⟨h1, h2⟩ := h.shut hb
    exact shutAll_inv k _ n h1 (by omega)
def opsWf (s : St) : Prop := ∀ x ∈ s.code, (Lit.int .i64 x.op).wf = true
theorem opens_form {w : World} {B bb : Nat} {x : Px} {s : St} (h : PAt w B bb x s) : ∃ a cap, x.ov = .slice a s.opens.length cap ∧ s.opens.length ≤ cap := by
  rcases h.ope.2 with ⟨h1, h2⟩ | ⟨g, cap, cur, h1, _, _, hc, _⟩
  · exact ⟨none, 0, by rw [h1, h2], by omega⟩
  · exact ⟨_, cap, h1, hc⟩
set_option maxRecDepth 100000 in
set_option maxHeartbeats 8000000 in
theorem made_nil (v : Value) (l : List Step) (hl0 : l = []) (w : World) (hl : StepsAt w v l) (hwf : opsWf (madeP l)) :
    Calls Tryz.prog 11 #[v] w fun e w' => (∃ bt bf bm bg be bd cv, e = .returned (madeV bt bf bm bg be bd) ∧ MadeAt w' w.heap.size bt bf bm bg be bd cv (madeP l).code) ∧ Below w.heap.size w w' := by
  obtain ⟨la, lc, rfl, hle, hx⟩ := hl.form
  have HX := Lib.hid hx
  have HWF := Lib.hid hwf
  have hI := Inv.run Inv.start (l.take 60)
  have hI2 : Inv (runP .start (l.take 60)) 1200 := hI.mono (by rw [List.length_take]; omega)
  obtain ⟨hI3, hO3⟩ := shutAll_inv _ _ _ hI2 rfl
  obtain ⟨R, hR⟩ : ∃ R, runP .start (l.take 60) = R := ⟨_, rfl⟩
  have hM : madeP l = lastP (shutAll R.opens.length R) := by rw [← hR]; rfl
  rw [hR] at hI2 hI3 hO3
  obtain ⟨S, hS⟩ : ∃ S, shutAll R.opens.length R = S := ⟨_, rfl⟩
  rw [hS] at hI3 hO3 hM
  have HM := Lib.hid hM
  have HI2 := Lib.hid hI2
  have HI3 := Lib.hid hI3
  have HO3 := Lib.hid hO3
  have HR0 := Lib.hid (show R.opens.length = 0 by rw [← hR, hl0]; rfl)
  have HL0 := Lib.hid hl0
  have HR := Lib.hid hR
  have HS := Lib.hid hS
  obtain ⟨C, hC⟩ : ∃ C, (madeP l).code = C := ⟨_, rfl⟩
  rw [hC]
  have HC := Lib.hid hC
  clear hl0 hx hwf hI hI2 hI3 hO3 hR hM hS hC hl
  obtain ⟨w0, hw0⟩ : ∃ w0, (w.alloc (.cells zeroMod 41)).alloc (.cells (boxV nilx) 89) = w0 := ⟨_, rfl⟩
  have B0 : Below w.heap.size w w0 := by rw [← hw0]; exact ((Below.refl _ _).alloc (Nat.le_refl _) _).alloc (by simp) _
  have z0 : w0.heap.size = w.heap.size + 2 := by rw [← hw0]; simp
  have hP0 : PAt w0 w.heap.size (w.heap.size + 1) nilx .start := by
    rw [← hw0]
    refine ⟨?_, by omega, World.ownsRow_nil _ _ _ _, World.ownsRow_nil _ _ _ _, World.ownsRow_nil _ _ _ _⟩
    have := heap_alloc_new (w.alloc (.cells zeroMod 41)) (.cells (boxV nilx) 89)
    rw [show (w.alloc (.cells zeroMod 41)).heap.size = w.heap.size + 1 by simp] at this
    exact this
  have hrb : w0.heap[w.heap.size]? = some (.cells zeroMod 41 (0, 0)) := by
    rw [← hw0]
    exact (Below.heap_alloc _ _ _ (by simp)).trans (heap_alloc_new _ _)
  have HRB := Lib.hid (fun (s' : St) (wr : World) (u : Upd w0 w.heap.size (w.heap.size + 1) nilx s' wr) => (show wr.heap[w.heap.size]? = some (.cells zeroMod 41 (0, 0)) from by
    obtain ⟨_, _, _, h3⟩ := u
    refine (h3.block _ (by omega) (fun hf => ?_)).trans hrb
    rcases hf with hf | hf | hf | hf
    · omega
    · simp [nilx, Value.ownBlock] at hf
    · simp [nilx, Value.ownBlock] at hf
    · simp [nilx, Value.ownBlock] at hf))
  have HU0 := Lib.hid (Upd.same hP0)
  have HP0 := Lib.hid hP0
  have HB0 := Lib.hid B0
  have HW := Lib.hid hw0
  unfold zeroMod boxV nilx at hw0
  dsimp only at hw0
  clear B0 hP0 hrb
  go_enter Tryz.func11, Tryz.ntmps11
  go_upto_region 2 with fail
  clear hw0
  go_wp2_with fail
  go_loopw [4] (fun i wr => ∃ k : Nat, k ≤ l.length ∧ k ≤ 60 ∧ i = .int .i64 k ∧ Upd w0 w.heap.size (w.heap.size + 1) nilx (runP .start (l.take k)) wr) (fun i _ => 60 - (intOf i).toNat)
  case atStart => exact ⟨0, Nat.zero_le _, Nat.zero_le _, rfl, HU0.out⟩
  case round =>
    obtain ⟨k, hk1, hk2, rfl, hU⟩ := hrel
    have HU := Lib.hid hU
    by_cases hlt : k < l.length ∧ k < 60
    · exact absurd hlt.1 (by rw [HL0.out]; simp)
    · have htk : l.take k = l.take 60 := by
        rcases (show k = l.length ∨ k = 60 by omega) with h9 | h9
        · rw [List.take_of_length_le (by omega), List.take_of_length_le (by omega)]
        · rw [h9]
      have HUR := Lib.hid (show Upd w0 w.heap.size (w.heap.size + 1) nilx R wr by rw [← HR.out, ← htk]; exact hU)
      obtain ⟨wq, hwq⟩ : ∃ wq : World, wq = wr := ⟨_, rfl⟩
      rw [← hwq] at HUR ⊢
      clear hU HU htk hwq
      have hex : decide (k < l.length) = false ∨ (decide (k < l.length) = true ∧ decide ((k : Int) < 60) = false) := by
        rcases (show k = l.length ∨ (k < l.length ∧ k = 60) by omega) with h9 | ⟨h9, h8⟩
        · exact .inl (decide_eq_false (by omega))
        · exact .inr ⟨decide_eq_true h9, decide_eq_false (by omega)⟩
      rcases hex with d1 | ⟨d1, d2⟩
      all_goals
        go_wp2_with fail
        go_loopg [30] R.opens.length (fun gk p wr => ∃ s' : St, Upd w0 w.heap.size (w.heap.size + 1) nilx s' wr ∧ Inv s' 1200 ∧ s'.opens.length = gk ∧ shutAll gk s' = S ∧ gk = 0)
        case atStart => exact ⟨R, HUR.out, HI2.out, rfl, HS.out, HR0.out⟩
        case round =>
          obtain ⟨s', hU, hI, hgk, hsh, hz0⟩ := hrel
          have HZ0 := Lib.hid hz0
          clear hz0
          have HU := Lib.hid hU
          have HI := Lib.hid hI
          have HGK := Lib.hid hgk
          have HSH := Lib.hid hsh
          obtain ⟨xr, hA, hf, hk⟩ := HU.out
          obtain ⟨oa, oc, hov, _⟩ := opens_form hA
          have c2 := (show PAt wr _ _ ⟨xr.cv, xr.sv, xr.ov⟩ s' from hA).cells.2.2
          rw [hov, hgk] at c2
          have hBr : w.heap.size ≤ wr.heap.size := Nat.le_trans HB0.out.size hk.size
          have HA := Lib.hid hA
          have HF := Lib.hid hf
          have HK := Lib.hid hk
          clear hU hI hsh hA hf hk hov
          rcases Nat.eq_zero_or_pos gk with h0 | hpos
          · subst h0
            have hon := List.eq_nil_of_length_eq_zero HGK.out
            have hsS : s' = S := by have h := HSH.out; rw [shutAll_zero hon] at h; exact h
            clear hgk
            have HLV := Lib.hid (level_any ⟨0, 126, 0⟩ wr w.heap.size (w.heap.size + 1) xr s' 1200 HI.out (by omega) HA.out hBr (.inr (.inl rfl)) (by unfold topH; rw [hon]; rfl))
            have HON := Lib.hid hon
            have HSS := Lib.hid hsS
            have HLI := Lib.hid (HI.out.level (b := ⟨0, 126, 0⟩) (.inr (.inl rfl)) (by unfold topH; rw [hon]; rfl))
            clear hon hsS
            go_wp2_with fail
            refine HLV.out.mono ?_
            rintro e2 w2 ⟨rfl, u2⟩
            have HU2 := Lib.hid (Upd.trans HF.out HK.out u2)
            clear u2 c2
            obtain ⟨x2, hA2, hf2, hk2⟩ := HU2.out
            have HP := Lib.hid (put_any 11 0 0 w2 w.heap.size (w.heap.size + 1) x2 _ hA2 (Nat.le_trans HB0.out.size hk2.size) (by have := HLI.out.size; omega))
            have HF2 := Lib.hid hf2
            have HK2 := Lib.hid hk2
            clear hA2 hf2 hk2
            go_wp2_with fail
            refine HP.out.mono ?_
            rintro e3 w3 ⟨rfl, u3⟩
            have HU3 := Lib.hid (Upd.trans HF2.out HK2.out u3)
            clear u3 HP
            obtain ⟨⟨cv3, sv3, ov3⟩, hA3, hf3, hk3⟩ := HU3.out
            have hlast : (putP (levelP s' ⟨0, 126, 0⟩) 11 0 0) = madeP l := by rw [HM.out, ← HSS.out]; rfl
            rw [hlast] at hA3
            obtain ⟨c0, _, _⟩ := hA3.cells
            have hcpos : 0 < (madeP l).code.length := by rw [HM.out]; unfold lastP putP; simp
            have hrow := hA3.cod
            obtain ⟨gc, ccap, hcf⟩ := Go.Joins.ownsRow_form hrow hcpos
            have hcf2 : cv3 = .slice (some ⟨gc, 0, none⟩) (madeP l).code.length ccap := hcf
            subst hcf2
            rw [HC.out] at c0 hrow
            have HROW := Lib.hid hrow
            have hrb := HRB.out _ _ HU3.out
            have hbl := hA3.lt
            have hrl : w.heap.size < w3.heap.size := by omega
            have r0 : w3.cell? ⟨w.heap.size, 0, none⟩ = some (.slice none 0 0) := cell_of_row _ _ _ _ _ _ hrb
            have r1 : w3.cell? ⟨w.heap.size, 1, none⟩ = some (.slice none 0 0) := cell_of_row _ _ _ _ _ _ hrb
            have r2 : w3.cell? ⟨w.heap.size, 2, none⟩ = some (.slice none 0 0) := cell_of_row _ _ _ _ _ _ hrb
            have r3 : w3.cell? ⟨w.heap.size, 3, none⟩ = some (.slice none 0 0) := cell_of_row _ _ _ _ _ _ hrb
            have r4 : w3.cell? ⟨w.heap.size, 4, none⟩ = some (.slice none 0 0) := cell_of_row _ _ _ _ _ _ hrb
            have r5 : w3.cell? ⟨w.heap.size, 5, none⟩ = some (.int .i64 0) := cell_of_row _ _ _ _ _ _ hrb
            have r6 : w3.cell? ⟨w.heap.size, 6, none⟩ = some (.slice none 0 0) := cell_of_row _ _ _ _ _ _ hrb
            have f0 : w3.frozen? ⟨w.heap.size, 0, none⟩ = false := frozen_of_row w3 _ 0 _ _ hrb
            have f1 : w3.frozen? ⟨w.heap.size, 1, none⟩ = false := frozen_of_row w3 _ 1 _ _ hrb
            have f2 : w3.frozen? ⟨w.heap.size, 2, none⟩ = false := frozen_of_row w3 _ 2 _ _ hrb
            have f3 : w3.frozen? ⟨w.heap.size, 3, none⟩ = false := frozen_of_row w3 _ 3 _ _ hrb
            have f4 : w3.frozen? ⟨w.heap.size, 4, none⟩ = false := frozen_of_row w3 _ 4 _ _ hrb
            have f5 : w3.frozen? ⟨w.heap.size, 5, none⟩ = false := frozen_of_row w3 _ 5 _ _ hrb
            have f6 : w3.frozen? ⟨w.heap.size, 6, none⟩ = false := frozen_of_row w3 _ 6 _ _ hrb
            have g1 : w.heap.size < w3.heap.size + 1 := by omega
            have g2 : w.heap.size < w3.heap.size + 1 + 1 := by omega
            have g3 : w.heap.size < w3.heap.size + 1 + 1 + 1 := by omega
            have g4 : w.heap.size < w3.heap.size + 1 + 1 + 1 + 1 := by omega
            have g5 : w.heap.size < w3.heap.size + 1 + 1 + 1 + 1 + 1 := by omega
            have g6 : w.heap.size < w3.heap.size + 1 + 1 + 1 + 1 + 1 + 1 := by omega
            have n0 : w.heap.size ≠ w3.heap.size := by omega
            have n1 : w.heap.size ≠ w3.heap.size + 1 := by omega
            have n2 : w.heap.size ≠ w3.heap.size + 1 + 1 := by omega
            have n3 : w.heap.size ≠ w3.heap.size + 1 + 1 + 1 := by omega
            have n4 : w.heap.size ≠ w3.heap.size + 1 + 1 + 1 + 1 := by omega
            have n5 : w.heap.size ≠ w3.heap.size + 1 + 1 + 1 + 1 + 1 := by omega
            clear hA3 hf3 hk3 hlast hrow hcf hcpos
            go_wp2_with fail
            obtain ⟨W7, hW7⟩ : ∃ W7, (((((((w3.setCell ⟨w.heap.size, 0, none⟩ (slV w3.heap.size 1)).setCell ⟨w.heap.size, 1, none⟩ (slV (w3.heap.size + 1) 1)).setCell ⟨w.heap.size, 2, none⟩ (slV (w3.heap.size + 1 + 1) 1)).setCell ⟨w.heap.size, 3, none⟩ (slV (w3.heap.size + 1 + 1 + 1) 2)).setCell ⟨w.heap.size, 4, none⟩ (slV (w3.heap.size + 1 + 1 + 1 + 1) 1)).setCell ⟨w.heap.size, 5, none⟩ (.int .i64 (-1))).setCell ⟨w.heap.size, 6, none⟩ (slV (w3.heap.size + 1 + 1 + 1 + 1 + 1) 1)) = W7 := ⟨_, rfl⟩
            obtain ⟨hb7, hz7, hk7⟩ := seven_set hrb _ _ _ _ _ _ _ _ hW7
            unfold slV at hW7
            rw [hW7]
            obtain ⟨WF, hWF⟩ : ∃ WF, ((((((W7.alloc (.cells #[.string ⟨#[126, 127]⟩, .string ⟨#[126]⟩] 25)).alloc (.cells #[.int .i64 0, .string ⟨#[127, 126]⟩, .slice (some ⟨gc, 0, none⟩) C.length ccap] 32)).alloc (.cells #[.int .i64 1, .int .i64 2] 55)).alloc (.cells #[.int .i64 127, .bool true, .int .i64 5, .int .i64 126, .bool true, .int .i64 (-5)] 35)).alloc (.cells #[.string ⟨#[102]⟩, .int .i64 0, .int .i64 0] 98)).alloc (.cells #[.int .i64 100, .string ⟨#[115, 111, 109, 101, 32, 98, 121, 116, 101, 115]⟩] 57)) = WF := ⟨_, rfl⟩
            obtain ⟨a0, a1, a2, a3, a4, a5, hbF⟩ := six_new W7 _ _ _ _ _ _ WF hWF
            rw [hWF]
            rw [hz7] at a0 a1 a2 a3 a4 a5
            have hrF := (hbF.block w.heap.size (by omega)).trans hb7
            have q0 : WF.cell? ⟨w.heap.size, 0, none⟩ = some (slV w3.heap.size 1) := cell_of_row _ _ _ _ _ _ hrF
            have q1 : WF.cell? ⟨w.heap.size, 1, none⟩ = some (slV (w3.heap.size + 1) 1) := cell_of_row _ _ _ _ _ _ hrF
            have q2 : WF.cell? ⟨w.heap.size, 2, none⟩ = some (slV (w3.heap.size + 1 + 1) 1) := cell_of_row _ _ _ _ _ _ hrF
            have q3 : WF.cell? ⟨w.heap.size, 3, none⟩ = some (slV (w3.heap.size + 1 + 1 + 1) 2) := cell_of_row _ _ _ _ _ _ hrF
            have q4 : WF.cell? ⟨w.heap.size, 4, none⟩ = some (slV (w3.heap.size + 1 + 1 + 1 + 1) 1) := cell_of_row _ _ _ _ _ _ hrF
            have q5 : WF.cell? ⟨w.heap.size, 5, none⟩ = some (.int .i64 (-1)) := cell_of_row _ _ _ _ _ _ hrF
            have q6 : WF.cell? ⟨w.heap.size, 6, none⟩ = some (slV (w3.heap.size + 1 + 1 + 1 + 1 + 1) 1) := cell_of_row _ _ _ _ _ _ hrF
            have hbw3 : Below w.heap.size w w3 := HB0.out.trans ((Upd.from_base HP0.out HB0.out.size HU3.out))
            have hb7w : Below w.heap.size w3 W7 := hk7.below (fun k hk => by omega) (by omega)
            have hlow : w.heap.size ≤ w3.heap.size := by omega
            refine bodyPost_ret (v := madeV w3.heap.size (w3.heap.size + 1) (w3.heap.size + 1 + 1) (w3.heap.size + 1 + 1 + 1) (w3.heap.size + 1 + 1 + 1 + 1) (w3.heap.size + 1 + 1 + 1 + 1 + 1)) (by simp [results, Tryz.results11, go_sem, q0, q1, q2, q3, q4, q5, q6]; rfl) rfl ⟨⟨_, _, _, _, _, _, .slice (some ⟨gc, 0, none⟩) C.length ccap, rfl, ⟨a0, a1, a2, a3, a4, a5, ?_, ⟨hlow, by omega, by omega, by omega, by omega, by omega⟩, ?_, ?_⟩⟩, ?_⟩
            · refine ownsRow_of HROW.out (fun k hk => ?_)
              have hkl := HROW.out.lt k hk
              have hkn : k ≠ w.heap.size := fun e => by
                subst e
                exact kind_ne HROW.out hrb (by decide) hk
              exact (hbF.block k (by omega)).trans (hk7.block k (by omega) hkn)
            · rw [← HC.out]; exact HWF.out
            · have h1 := (HI3.out.level (b := ⟨0, 126, 0⟩) (.inr (.inl rfl)) (by unfold topH; rw [HO3.out]; rfl)).size
              have h2 : C.length = (levelP S ⟨0, 126, 0⟩).code.length + 1 := by rw [← HC.out, HM.out]; unfold lastP putP; simp
              omega
            · exact (hbw3.trans hb7w).trans (hbF.mono (by omega))
          · exact absurd hpos (by have := HZ0.out; omega)
end Go.Proofs.YtmbgemcddjailaaGreatDoor.Pg
