/-
  How package asm's Builder lies in memory; what a method of it leaves as it was. Plain but for the shape of memory.
-/
import Derived.Test.YtlbgbpgjccbbjaaDoorOpRightL
import Derived.Lib.OwnKind
namespace Go.Proofs.YtlbgbpgjccbbjaaDoor.Asm
open Go.RowKit Go.Maps Go.Proofs.YtlbgbpgjccbbjaaDoor.Op
set_option linter.unusedVariables false
/-- an instruction without labels -/
structure Ins where
  op : Int
  a : Int
  b : Int
def Ins.cells (x : Ins) : List Value := [.int .i64 x.op, .int .i64 x.a, .int .i64 x.b, .slice none 0 0]
def codeV (l : List Ins) : List Value := l.flatMap Ins.cells
structure Mk where
  code : Int
  label : ByteArray
def Mk.cells (m : Mk) : List Value := [.int .i64 m.code, .string m.label]
def openV (l : List Mk) : List Value := l.flatMap Mk.cells
def locV (l : List UInt8) : List Value := l.map fun c => .int .u8 (c.toNat : Int)
/-- what a Builder holds -/
structure St where
  params : Nat
  locals : List UInt8
  code : List Ins
  opens : List Mk
/-- where it holds it -/
structure Bx where
  lv : Value
  cv : Value
  ov : Value
  mb : Nat
def Bx.foot (bb : Nat) (x : Bx) (k : Nat) : Prop := k = bb ∨ x.lv.ownBlock = some k ∨ x.cv.ownBlock = some k ∨ x.ov.ownBlock = some k ∨ k = x.mb
def boxV (x : Bx) (s : St) : Array Value := #[.int .i64 s.params, x.lv, x.cv, x.ov, .map (some x.mb)]
def NamesOK (D : DataW Value) : Prop := ∀ nm : ByteArray, has D (.string nm.data.toList) = true → ∃ c, codeOf nm.data.toList = some c ∧ ∀ z, D.atKey (.string nm.data.toList) z = .held (.int .i64 c)
structure BAt (w : World) (B bb : Nat) (x : Bx) (n : Nat) (s : St) : Prop where
  box : w.heap[bb]? = some (.cells (boxV x s) 88 (0, 0))
  low : B ≤ bb
  loc : w.ownsRow B 5 1 x.lv s.locals.length (locV s.locals)
  cod : w.ownsRow B 36 4 x.cv s.code.length (codeV s.code)
  ope : w.ownsRow B 91 2 x.ov s.opens.length (openV s.opens)
  mlow : B ≤ x.mb
  nam : ∃ D, w.ownsMap Tryd.prog 9 asIs x.mb n D ∧ NamesOK D
/-- but for the blocks of F, and new ones, the world is as it was -/
structure Keeps (F : Nat → Prop) (w w' : World) : Prop where
  os : w'.os = w.os
  tape : w'.tape = w.tape
  output : w'.output = w.output
  size : w.heap.size ≤ w'.heap.size
  block : ∀ k, k < w.heap.size → ¬ F k → w'.heap[k]? = w.heap[k]?
theorem Keeps.refl (F : Nat → Prop) (w : World) : Keeps F w w := ⟨rfl, rfl, rfl, Nat.le_refl _, fun _ _ _ => rfl⟩
theorem Keeps.trans {F G : Nat → Prop} {a b c : World} (h : Keeps F a b) (k : Keeps G b c) (hG : ∀ j, G j → F j ∨ a.heap.size ≤ j) : Keeps F a c :=
  ⟨k.os.trans h.os, k.tape.trans h.tape, k.output.trans h.output, Nat.le_trans h.size k.size, fun j hj hF => (k.block j (Nat.lt_of_lt_of_le hj h.size) (fun hg => by rcases hG j hg with h1 | h1; exact hF h1; omega)).trans (h.block j hj hF)⟩
theorem Keeps.grown {F : Nat → Prop} {w w' : World} {row : Option Nat} (g : w.grownBy w' row) (h : ∀ k, row = some k → F k) : Keeps F w w' :=
  ⟨g.os, g.tape, g.output, g.size, fun k hk hF => g.block k hk (fun e => hF (h k e.symm))⟩
theorem Keeps.of_below {F : Nat → Prop} {w w' : World} (b : Below w.heap.size w w') : Keeps F w w' := ⟨b.os, b.tape, b.output, b.size, fun k hk _ => b.block k hk⟩
theorem Keeps.alloc (F : Nat → Prop) (w : World) (o : Obj) : Keeps F w (w.alloc o) := .of_below ((Below.refl _ _).alloc (Nat.le_refl _) o)
theorem Keeps.setCell {F : Nat → Prop} (w : World) (p : Addr) (u : Value) (h : F p.block) : Keeps F w (w.setCell p u) :=
  ⟨rfl, rfl, rfl, by simp [World.setCell], fun k hk hF => Below.heap_setCell _ _ _ _ (fun e => hF (e ▸ h))⟩
theorem Keeps.below {F : Nat → Prop} {w w' : World} {B : Nat} (h : Keeps F w w') (hF : ∀ k, F k → B ≤ k) (hB : B ≤ w.heap.size) : Below B w w' :=
  ⟨h.os, h.tape, h.output, h.size, fun k hk => h.block k (by omega) (fun hf => by have := hF k hf; omega)⟩
theorem Keeps.cell {F : Nat → Prop} {w w' : World} (h : Keeps F w w') {a : Addr} {v : Value} (hc : w.cell? a = some v) (hF : ¬ F a.block) : w'.cell? a = some v :=
  (World.cell?_of_block (h.block a.block (World.block_lt_of_cell? w a hc) hF)).trans hc
theorem ownsRow_of {w w' : World} {B : Nat} {e : TypeId} {size : Nat} {v : Value} {n : Nat} {xs : List Value} (h : w.ownsRow B e size v n xs) (he : ∀ k, v.ownBlock = some k → w'.heap[k]? = w.heap[k]?) : w'.ownsRow B e size v n xs := by
  refine ⟨h.1, ?_⟩
  rcases h.2 with hn | ⟨g, cap, cur, rfl, hb, hgg, rest⟩
  · exact .inl hn
  · exact .inr ⟨g, cap, cur, rfl, hb, (he g rfl).trans hgg, rest⟩
theorem ownsMap_of {P : Program} {k : TypeId} {w w' : World} {b n : Nat} {D : DataW Value} (h : w.ownsMap P k asIs b n D) (he : w'.heap[b]? = w.heap[b]?) : w'.ownsMap P k asIs b n D := by
  obtain ⟨es, clock, hb, r⟩ := h
  exact ⟨es, clock, he.trans hb, r⟩
theorem BAt.kept {w w' : World} {B bb : Nat} {x : Bx} {n : Nat} {s : St} (h : BAt w B bb x n s) (he : ∀ k, x.foot bb k → w'.heap[k]? = w.heap[k]?) : BAt w' B bb x n s :=
  ⟨(he bb (.inl rfl)).trans h.box, h.low, ownsRow_of h.loc (fun k hk => he k (.inr (.inl hk))), ownsRow_of h.cod (fun k hk => he k (.inr (.inr (.inl hk)))), ownsRow_of h.ope (fun k hk => he k (.inr (.inr (.inr (.inl hk))))), h.mlow,
   by obtain ⟨D, h1, h2⟩ := h.nam; exact ⟨D, ownsMap_of h1 (he x.mb (.inr (.inr (.inr (.inr rfl))))), h2⟩⟩
theorem BAt.lt {w : World} {B bb : Nat} {x : Bx} {n : Nat} {s : St} (h : BAt w B bb x n s) : bb < w.heap.size := (Array.getElem?_eq_some_iff.1 h.box).1
theorem BAt.foot_lt {w : World} {B bb : Nat} {x : Bx} {n : Nat} {s : St} (h : BAt w B bb x n s) : ∀ k, x.foot bb k → B ≤ k ∧ k < w.heap.size := by
  intro k hk
  rcases hk with rfl | hk | hk | hk | rfl
  · exact ⟨h.low, h.lt⟩
  · exact h.loc.lt k hk
  · exact h.cod.lt k hk
  · exact h.ope.lt k hk
  · obtain ⟨D, h1, _⟩ := h.nam
    exact ⟨h.mlow, h1.lt⟩
theorem BAt.later {w w' : World} {B bb : Nat} {x : Bx} {n : Nat} {s : St} (h : BAt w B bb x n s) (hb : Below w.heap.size w w') : BAt w' B bb x n s :=
  h.kept fun k hk => hb.block k (h.foot_lt k hk).2
theorem BAt.keeps {w w' : World} {B bb : Nat} {x : Bx} {n : Nat} {s : St} {F : Nat → Prop} (h : BAt w B bb x n s) (hk : Keeps F w w') (hd : ∀ k, x.foot bb k → ¬ F k) : BAt w' B bb x n s :=
  h.kept fun k hf => hk.block k (h.foot_lt k hf).2 (hd k hf)
theorem BAt.mono {w : World} {B bb : Nat} {x : Bx} {n n' : Nat} {s : St} (h : BAt w B bb x n s) (hn : n ≤ n') : BAt w B bb x n' s :=
  ⟨h.box, h.low, h.loc, h.cod, h.ope, h.mlow, by obtain ⟨D, h1, h2⟩ := h.nam; exact ⟨D, h1.mono hn, h2⟩⟩
/-- what a method leaves -/
def Upd (w : World) (B bb : Nat) (x : Bx) (n : Nat) (s : St) (w' : World) : Prop := ∃ x' : Bx, BAt w' B bb x' n s ∧ (∀ k, x'.foot bb k → x.foot bb k ∨ w.heap.size ≤ k) ∧ Keeps (x.foot bb) w w'
theorem Upd.same {w : World} {B bb : Nat} {x : Bx} {n : Nat} {s : St} (h : BAt w B bb x n s) : Upd w B bb x n s w := ⟨x, h, fun k hk => .inl hk, .refl _ _⟩
theorem Upd.below {w w' : World} {B bb : Nat} {x : Bx} {n : Nat} {s : St} (h : BAt w B bb x n s) (hb : Below w.heap.size w w') : Upd w B bb x n s w' := ⟨x, h.later hb, fun k hk => .inl hk, .of_below hb⟩
theorem Upd.trans {w w1 w2 : World} {B bb : Nat} {x x1 : Bx} {n2 : Nat} {s2 : St} (hf : ∀ k, x1.foot bb k → x.foot bb k ∨ w.heap.size ≤ k) (hk : Keeps (x.foot bb) w w1) (h : Upd w1 B bb x1 n2 s2 w2) : Upd w B bb x n2 s2 w2 := by
  obtain ⟨x2, h1, h2, h3⟩ := h
  refine ⟨x2, h1, fun k hx => ?_, hk.trans h3 hf⟩
  rcases h2 k hx with h4 | h4
  · exact hf k h4
  · exact .inr (Nat.le_trans hk.size h4)
/-- .. seen from where the law began -/
theorem Upd.from_base {w w' : World} {B bb : Nat} {x : Bx} {n n' : Nat} {s s' : St} (h0 : BAt w B bb x n s) (hB : B ≤ w.heap.size) (h : Upd w B bb x n' s' w') : Below B w w' := by
  obtain ⟨x', _, _, h3⟩ := h
  exact h3.below (fun k hk => (h0.foot_lt k hk).1) hB
theorem box_set {w : World} {bb : Nat} {cs : Array Value} {t : TypeId} {f : Nat × Nat} (h : w.heap[bb]? = some (.cells cs t f)) (j : Nat) (u : Value) : (w.setCell ⟨bb, j, none⟩ u).heap[bb]? = some (.cells (cs.setIfInBounds j u) t f) := by
  obtain ⟨lo, hi⟩ := f
  simp only [World.setCell, Array.getElem?_modify, h]
  simp
theorem kind_ne {w : World} {B : Nat} {e : TypeId} {size : Nat} {v : Value} {n : Nat} {xs : List Value} (h : w.ownsRow B e size v n xs) {k : Nat} {cs : Array Value} {t : TypeId} {f : Nat × Nat} (hk : w.heap[k]? = some (.cells cs t f)) (hne : e ≠ t) : v.ownBlock ≠ some k := by
  intro hv
  obtain ⟨c, fz, h1⟩ := Lib.ownsRow_kind h k hv
  rw [hk] at h1
  simp at h1
  exact hne h1.2.1.symm
theorem kind_ne_map {w : World} {B : Nat} {e : TypeId} {size : Nat} {v : Value} {n : Nat} {xs : List Value} (h : w.ownsRow B e size v n xs) {P : Program} {kt : TypeId} {b m : Nat} {D : DataW Value} (hm : w.ownsMap P kt asIs b m D) : v.ownBlock ≠ some b := by
  intro hv
  obtain ⟨c, fz, h1⟩ := Lib.ownsRow_kind h b hv
  obtain ⟨es, clock, h2, _⟩ := hm
  rw [h2] at h1
  cases h1
theorem kinds_ne {w : World} {B B' : Nat} {e e' : TypeId} {size size' : Nat} {v v' : Value} {n n' : Nat} {xs xs' : List Value} (h : w.ownsRow B e size v n xs) (h' : w.ownsRow B' e' size' v' n' xs') (hne : e ≠ e') : ∀ k, v.ownBlock = some k → v'.ownBlock ≠ some k := by
  intro k hk hv
  obtain ⟨c, fz, h1⟩ := Lib.ownsRow_kind h k hk
  obtain ⟨c', fz', h2⟩ := Lib.ownsRow_kind h' k hv
  rw [h2] at h1
  simp at h1
  exact hne h1.2.1.symm
theorem map_ne_box {w : World} {P : Program} {kt : TypeId} {b m : Nat} {D : DataW Value} (hm : w.ownsMap P kt asIs b m D) {k : Nat} {cs : Array Value} {t : TypeId} {f : Nat × Nat} (hk : w.heap[k]? = some (.cells cs t f)) : b ≠ k := by
  rintro rfl
  obtain ⟨es, clock, h2, _⟩ := hm
  rw [h2] at hk
  cases hk
/-- where the rest lies as it was -/
theorem BAt.rest {w : World} {B bb : Nat} {x : Bx} {n : Nat} {s : St} (h : BAt w B bb x n s) : (∀ k, x.lv.ownBlock = some k → k ≠ bb ∧ x.cv.ownBlock ≠ some k ∧ x.ov.ownBlock ≠ some k ∧ k ≠ x.mb) ∧ (∀ k, x.cv.ownBlock = some k → k ≠ bb ∧ x.ov.ownBlock ≠ some k ∧ k ≠ x.mb) ∧ (∀ k, x.ov.ownBlock = some k → k ≠ bb ∧ k ≠ x.mb) ∧ x.mb ≠ bb := by
  obtain ⟨D, hm, _⟩ := h.nam
  refine ⟨fun k hk => ⟨?_, kinds_ne h.loc h.cod (by decide) k hk, kinds_ne h.loc h.ope (by decide) k hk, ?_⟩, fun k hk => ⟨?_, kinds_ne h.cod h.ope (by decide) k hk, ?_⟩, fun k hk => ⟨?_, ?_⟩, map_ne_box hm h.box⟩
  · rintro rfl; exact kind_ne h.loc h.box (by decide) hk
  · rintro rfl; exact kind_ne_map h.loc hm hk
  · rintro rfl; exact kind_ne h.cod h.box (by decide) hk
  · rintro rfl; exact kind_ne_map h.cod hm hk
  · rintro rfl; exact kind_ne h.ope h.box (by decide) hk
  · rintro rfl; exact kind_ne_map h.ope hm hk
def newBlock (v v' : Value) (w : World) : Prop := ∀ k, v'.ownBlock = some k → v.ownBlock = some k ∨ w.heap.size ≤ k
/-- the field of the locals, stored anew -/
theorem BAt.setLoc {w w1 : World} {B bb : Nat} {x : Bx} {n : Nat} {s : St} (h : BAt w B bb x n s) {v' : Value} {l : List UInt8} (g : w.grownBy w1 x.lv.ownBlock) (o : w1.ownsRow B 5 1 v' l.length (locV l)) (hv : newBlock x.lv v' w) : Upd w B bb x n { s with locals := l } (w1.setCell ⟨bb, 1, none⟩ v') := by
  obtain ⟨r1, r2, r3, r4⟩ := h.rest
  have hbx : w1.heap[bb]? = w.heap[bb]? := g.block bb h.lt (fun e => (r1 bb e.symm).1 rfl)
  have hold : ∀ k, k < w.heap.size → some k ≠ x.lv.ownBlock → k ≠ bb → (w1.setCell ⟨bb, 1, none⟩ v').heap[k]? = w.heap[k]? := fun k hk h1 h2 => (Below.heap_setCell _ _ _ _ h2).trans (g.block k hk h1)
  have hvb : ∀ k, v'.ownBlock = some k → k ≠ bb := fun k hk => by
    rcases hv k hk with h1 | h1
    · exact (r1 k h1).1
    · have := h.lt; omega
  obtain ⟨D, hm, hN⟩ := h.nam
  refine ⟨{ x with lv := v' }, ⟨?_, h.low, ownsRow_of o (fun k hk => Below.heap_setCell _ _ _ _ (hvb k hk)), ownsRow_of h.cod (fun k hk => hold k (h.cod.lt k hk).2 (fun e => (r1 k e.symm).2.1 hk) (r2 k hk).1), ownsRow_of h.ope (fun k hk => hold k (h.ope.lt k hk).2 (fun e => (r1 k e.symm).2.2.1 hk) (r3 k hk).1), h.mlow, D, ownsMap_of hm (hold x.mb hm.lt (fun e => (r1 _ e.symm).2.2.2 rfl) r4), hN⟩, ?_, ?_⟩
  · rw [box_set (hbx.trans h.box)]
    rfl
  · rintro k (rfl | hk | hk | hk | rfl)
    · exact .inl (.inl rfl)
    · rcases hv k hk with h1 | h1
      · exact .inl (.inr (.inl h1))
      · exact .inr h1
    · exact .inl (.inr (.inr (.inl hk)))
    · exact .inl (.inr (.inr (.inr (.inl hk))))
    · exact .inl (.inr (.inr (.inr (.inr rfl))))
  · exact (Keeps.grown g (fun k hk => .inr (.inl hk))).trans (Keeps.setCell (F := x.foot bb) _ _ _ (.inl rfl)) (fun j hj => .inl hj)
theorem BAt.setCod {w w1 : World} {B bb : Nat} {x : Bx} {n : Nat} {s : St} (h : BAt w B bb x n s) {v' : Value} {l : List Ins} (g : w.grownBy w1 x.cv.ownBlock) (o : w1.ownsRow B 36 4 v' l.length (codeV l)) (hv : newBlock x.cv v' w) : Upd w B bb x n { s with code := l } (w1.setCell ⟨bb, 2, none⟩ v') := by
  obtain ⟨r1, r2, r3, r4⟩ := h.rest
  have hbx : w1.heap[bb]? = w.heap[bb]? := g.block bb h.lt (fun e => (r2 bb e.symm).1 rfl)
  have hold : ∀ k, k < w.heap.size → some k ≠ x.cv.ownBlock → k ≠ bb → (w1.setCell ⟨bb, 2, none⟩ v').heap[k]? = w.heap[k]? := fun k hk h1 h2 => (Below.heap_setCell _ _ _ _ h2).trans (g.block k hk h1)
  have hvb : ∀ k, v'.ownBlock = some k → k ≠ bb := fun k hk => by
    rcases hv k hk with h1 | h1
    · exact (r2 k h1).1
    · have := h.lt; omega
  obtain ⟨D, hm, hN⟩ := h.nam
  refine ⟨{ x with cv := v' }, ⟨?_, h.low, ownsRow_of h.loc (fun k hk => hold k (h.loc.lt k hk).2 (fun e => (r1 k hk).2.1 e.symm) (r1 k hk).1), ownsRow_of o (fun k hk => Below.heap_setCell _ _ _ _ (hvb k hk)), ownsRow_of h.ope (fun k hk => hold k (h.ope.lt k hk).2 (fun e => (r2 k e.symm).2.1 hk) (r3 k hk).1), h.mlow, D, ownsMap_of hm (hold x.mb hm.lt (fun e => (r2 _ e.symm).2.2 rfl) r4), hN⟩, ?_, ?_⟩
  · rw [box_set (hbx.trans h.box)]
    rfl
  · rintro k (rfl | hk | hk | hk | rfl)
    · exact .inl (.inl rfl)
    · exact .inl (.inr (.inl hk))
    · rcases hv k hk with h1 | h1
      · exact .inl (.inr (.inr (.inl h1)))
      · exact .inr h1
    · exact .inl (.inr (.inr (.inr (.inl hk))))
    · exact .inl (.inr (.inr (.inr (.inr rfl))))
  · exact (Keeps.grown g (fun k hk => .inr (.inr (.inl hk)))).trans (Keeps.setCell (F := x.foot bb) _ _ _ (.inl rfl)) (fun j hj => .inl hj)
theorem BAt.setOpe {w w1 : World} {B bb : Nat} {x : Bx} {n : Nat} {s : St} (h : BAt w B bb x n s) {v' : Value} {l : List Mk} (g : w.grownBy w1 x.ov.ownBlock) (o : w1.ownsRow B 91 2 v' l.length (openV l)) (hv : newBlock x.ov v' w) : Upd w B bb x n { s with opens := l } (w1.setCell ⟨bb, 3, none⟩ v') := by
  obtain ⟨r1, r2, r3, r4⟩ := h.rest
  have hbx : w1.heap[bb]? = w.heap[bb]? := g.block bb h.lt (fun e => (r3 bb e.symm).1 rfl)
  have hold : ∀ k, k < w.heap.size → some k ≠ x.ov.ownBlock → k ≠ bb → (w1.setCell ⟨bb, 3, none⟩ v').heap[k]? = w.heap[k]? := fun k hk h1 h2 => (Below.heap_setCell _ _ _ _ h2).trans (g.block k hk h1)
  have hvb : ∀ k, v'.ownBlock = some k → k ≠ bb := fun k hk => by
    rcases hv k hk with h1 | h1
    · exact (r3 k h1).1
    · have := h.lt; omega
  obtain ⟨D, hm, hN⟩ := h.nam
  refine ⟨{ x with ov := v' }, ⟨?_, h.low, ownsRow_of h.loc (fun k hk => hold k (h.loc.lt k hk).2 (fun e => (r1 k hk).2.2.1 e.symm) (r1 k hk).1), ownsRow_of h.cod (fun k hk => hold k (h.cod.lt k hk).2 (fun e => (r2 k hk).2.1 e.symm) (r2 k hk).1), ownsRow_of o (fun k hk => Below.heap_setCell _ _ _ _ (hvb k hk)), h.mlow, D, ownsMap_of hm (hold x.mb hm.lt (fun e => (r3 _ e.symm).2 rfl) r4), hN⟩, ?_, ?_⟩
  · rw [box_set (hbx.trans h.box)]
    rfl
  · rintro k (rfl | hk | hk | hk | rfl)
    · exact .inl (.inl rfl)
    · exact .inl (.inr (.inl hk))
    · exact .inl (.inr (.inr (.inl hk)))
    · rcases hv k hk with h1 | h1
      · exact .inl (.inr (.inr (.inr (.inl h1))))
      · exact .inr h1
    · exact .inl (.inr (.inr (.inr (.inr rfl))))
  · exact (Keeps.grown g (fun k hk => .inr (.inr (.inr (.inl hk))))).trans (Keeps.setCell (F := x.foot bb) _ _ _ (.inl rfl)) (fun j hj => .inl hj)
/-- the names, one more -/
theorem BAt.setNam {w w1 : World} {B bb : Nat} {x : Bx} {n n' : Nat} {s : St} (h : BAt w B bb x n s) {D : DataW Value} (g : w.grownBy w1 (some x.mb)) (o : w1.ownsMap Tryd.prog 9 asIs x.mb n' D) (hN : NamesOK D) : Upd w B bb x n' s w1 := by
  obtain ⟨r1, r2, r3, r4⟩ := h.rest
  refine ⟨x, ⟨(g.block bb h.lt (fun e => r4 (Option.some.inj e).symm)).trans h.box, h.low, ownsRow_of h.loc (fun k hk => g.block k (h.loc.lt k hk).2 (fun e => (r1 k hk).2.2.2 (Option.some.inj e))), ownsRow_of h.cod (fun k hk => g.block k (h.cod.lt k hk).2 (fun e => (r2 k hk).2.2 (Option.some.inj e))), ownsRow_of h.ope (fun k hk => g.block k (h.ope.lt k hk).2 (fun e => (r3 k hk).2 (Option.some.inj e))), h.mlow, D, o, hN⟩, fun k hk => .inl hk, Keeps.grown g (fun k hk => .inr (.inr (.inr (.inr (Option.some.inj hk).symm))))⟩
theorem names_put {D : DataW Value} (hN : NamesOK D) (hD : IsMap D) {nm : ByteArray} {c : Int} (hc : codeOf nm.data.toList = some c) (hk : WideAt.IsKeyLit (.string nm.data.toList)) : NamesOK (D.put (.string nm.data.toList) (.held (.int .i64 c))) := by
  intro m hm
  by_cases he : m.data.toList = nm.data.toList
  · rw [he]
    exact ⟨c, hc, fun z => atKey_put_same hD hk _ z⟩
  · have hne : (Lit.string m.data.toList) ≠ .string nm.data.toList := fun e => he (by simpa using e)
    rw [has_put_other hne] at hm
    obtain ⟨c', h1, h2⟩ := hN m hm
    exact ⟨c', h1, fun z => by rw [atKey_put_other hne]; exact h2 z⟩
theorem ownsRow_take {w : World} {B : Nat} {e : TypeId} {size : Nat} {g n cap : Nat} {xs : List Value} (h : w.ownsRow B e size (.slice (some ⟨g, 0, none⟩) n cap) n xs) {m : Nat} (hm : m ≤ n) : w.ownsRow B e size (.slice (some ⟨g, 0, none⟩) m cap) m (xs.take (m * size)) := by
  have h1 : m * size ≤ n * size := Nat.mul_le_mul_right _ hm
  refine ⟨by rw [List.length_take, h.1]; omega, ?_⟩
  rcases h.2 with ⟨h', _⟩ | ⟨g', cap', cur, h', hb, hg, hnc, hcm, hcs, htake⟩
  · simp at h'
  · simp only [Value.slice.injEq, Option.some.injEq, Addr.mk.injEq, and_true, true_and] at h'
    obtain ⟨rfl, rfl⟩ := h'
    refine .inr ⟨g, cap, cur, rfl, hb, hg, by omega, hcm, hcs, ?_⟩
    rw [← htake, List.take_take]
    congr 1
    omega
end Go.Proofs.YtlbgbpgjccbbjaaDoor.Asm
