/-
  What package module's Same answers of two modules. No condition beyond what each theorem names.
-/
import Derived.Test.YtkemaonhchklmaaGreatDoorModEq
namespace Go.Proofs.YtkemaonhchklmaaGreatDoor.Mod
open Go.RowKit Go.Maps Go.Proofs.YtkemaonhchklmaaGreatDoor.Op
set_option linter.unusedVariables false
/-- two lists of as many, each the same -/
def sameL {α : Type} (eq : α → α → Bool) : List α → List α → Bool
  | [], [] => true
  | x :: xs, y :: ys => eq x y && sameL eq xs ys
  | _, _ => false
def sameIns (x y : InsL) : Bool := x.op == y.op && (x.a == y.a && (x.b == y.b && x.labels == y.labels))
def sameFn (x y : FuncP) : Bool := x.ty == y.ty && (eqS x.locals y.locals && sameL sameIns x.code y.code)
def sameM (a b : ModP) : Bool := a.start == b.start && (sameL eq_ft a.types b.types && (sameL sameFn a.funcs b.funcs && (sameL eq_mem a.memory b.memory && (sameL eq_glob a.globals b.globals && (sameL eq_exp a.exports b.exports && sameL eq_data a.data b.data)))))
def pairP {α : Type} (eq : α → α → Bool) (l m : List α) (j : Nat) : Bool := match l[j]?, m[j]? with
  | some x, some y => eq x y
  | _, _ => true
theorem pairP_some {α : Type} {eq : α → α → Bool} {l m : List α} {j : Nat} {x y : α} (h : l[j]? = some x) (h2 : m[j]? = some y) : pairP eq l m j = eq x y := by unfold pairP; rw [h, h2]
theorem anyN_succ (p : Nat → Bool) (n : Nat) : anyN p (n + 1) = (p 0 || anyN (fun j => p (j + 1)) n) := by
  unfold anyN
  rw [List.range_succ_eq_map]
  simp [List.any_map, Function.comp_def]
theorem sameL_eq {α : Type} (eq : α → α → Bool) : ∀ l m : List α, sameL eq l m = (decide (l.length = m.length) && !anyN (fun j => !pairP eq l m j) l.length)
  | [], [] => by simp [sameL, anyN]
  | [], y :: ys => by simp [sameL]
  | x :: xs, [] => by simp [sameL]
  | x :: xs, y :: ys => by
    show (eq x y && sameL eq xs ys) = _
    rw [sameL_eq eq xs ys, List.length_cons, anyN_succ]
    have h0 : pairP eq (x :: xs) (y :: ys) 0 = eq x y := pairP_some rfl rfl
    have h1 : ∀ j, pairP eq (x :: xs) (y :: ys) (j + 1) = pairP eq xs ys j := fun j => rfl
    rw [h0]
    simp only [h1, List.length_cons, Nat.add_right_cancel_iff]
    cases eq x y <;> cases decide (xs.length = ys.length) <;> simp
set_option maxRecDepth 100000 in
theorem ints_equal (lv mv : Value) (zs ys : List Int) (w : World) (hz : IntsAt w lv zs) (hy : IntsAt w mv ys) (hz2 : zs.length ≤ 9223372036854775807) (hy2 : ys.length ≤ 9223372036854775807) :
    Calls Tryz.prog 118 #[lv, mv] w fun e w' => e = .returned (.bool (zs == ys)) ∧ Below w.heap.size w w' := by
  by_cases hl : zs.length = ys.length
  · by_cases h0 : zs.length = 0
    · obtain rfl : zs = [] := List.eq_nil_of_length_eq_zero h0
      obtain rfl : ys = [] := List.eq_nil_of_length_eq_zero (by omega)
      obtain ⟨a, c, rfl⟩ := intsAt_form hz
      obtain ⟨b, d, rfl⟩ := intsAt_form hy
      refine (Tryz.slices_Equal_int_empty a b c 0 d w (by decide)).mono ?_
      rintro e w' ⟨rfl, rfl⟩
      exact ⟨rfl, Below.refl _ _⟩
    · rcases hz with ⟨rfl, rfl⟩ | ⟨b1, o1, c1, rfl, hb1, hc1⟩ | ⟨_, _, _, rfl⟩
      · simp at h0
      rotate_left
      · simp at h0
      · rcases hy with ⟨rfl, rfl⟩ | ⟨b2, o2, c2, rfl, hb2, hc2⟩ | ⟨_, _, _, rfl⟩
        · exact absurd hl h0
        rotate_left
        · exact absurd hl h0
        · refine (Tryz.slices_Equal_int b1 o1 zs.length c1 b2 o2 ys.length c2 zs ys w (Nat.le_refl _) (Nat.le_refl _) hz2 hy2 (fun j hj => ?_) (fun j hj => ?_)).mono ?_
          · rw [hc1 j _ (List.getElem?_eq_getElem hj), List.getD_eq_getElem?_getD, List.getElem?_eq_getElem hj]; rfl
          · rw [hc2 j _ (List.getElem?_eq_getElem hj), List.getD_eq_getElem?_getD, List.getElem?_eq_getElem hj]; rfl
          · rintro e w' ⟨rfl, q, rfl⟩
            rw [List.take_length, List.take_length]
            exact ⟨rfl, below_drewN (Below.refl _ _) _⟩
  · obtain ⟨a, c, rfl⟩ := intsAt_form hz
    obtain ⟨b, d, rfl⟩ := intsAt_form hy
    refine (Tryz.slices_Equal_int_lens a b zs.length c ys.length d w hl).mono ?_
    rintro e w' ⟨rfl, rfl⟩
    refine ⟨?_, Below.refl _ _⟩
    rw [show (zs == ys) = false from beq_eq_false_iff_ne.2 (fun e => hl (by rw [e]))]
set_option maxRecDepth 100000 in
set_option maxHeartbeats 1000000 in
theorem sameIns_any (o a b o2 a2 b2 : Int) (la mb : Option Addr) (n c m d : Nat) (zs ys : List Int) (w : World) (hz : IntsAt w (.slice la n c) zs) (hy : IntsAt w (.slice mb m d) ys) (hz2 : zs.length ≤ 9223372036854775807) (hy2 : ys.length ≤ 9223372036854775807) :
    Calls Tryz.prog 88 #[.agg #[.int .i64 o, .int .i64 a, .int .i64 b, .slice la n c], .agg #[.int .i64 o2, .int .i64 a2, .int .i64 b2, .slice mb m d]] w fun e w' => e = .returned (.bool (o == o2 && (a == a2 && (b == b2 && zs == ys)))) ∧ Below w.heap.size w w' := by
  have B0 : Below w.heap.size w ((w.alloc (.cells #[.int .i64 o, .int .i64 a, .int .i64 b, .slice la n c] 40)).alloc (.cells #[.int .i64 o2, .int .i64 a2, .int .i64 b2, .slice mb m d] 40)) := ((Below.refl _ _).alloc (Nat.le_refl _) _).alloc (by simp) _
  have hcall := ints_equal _ _ zs ys _ (intsAt_later hz B0) (intsAt_later hy B0) hz2 hy2
  obtain ⟨Q, hQ⟩ : ∃ Q, (zs == ys) = Q := ⟨_, rfl⟩
  rw [hQ] at hcall ⊢
  clear hQ hz hy
  cases h1 : (o == o2)
  · go_enter Tryz.func88, Tryz.ntmps88
    go_wp2_with fail
    go_ret
    exact ⟨rfl, B0⟩
  · cases h2 : (a == a2)
    · go_enter Tryz.func88, Tryz.ntmps88
      go_wp2_with fail
      go_ret
      exact ⟨rfl, B0⟩
    · cases h3 : (b == b2)
      · go_enter Tryz.func88, Tryz.ntmps88
        go_wp2_with fail
        go_ret
        exact ⟨rfl, B0⟩
      · go_enter Tryz.func88, Tryz.ntmps88
        go_wp2_with fail
        refine hcall.mono ?_
        rintro e w1 ⟨rfl, c1⟩
        go_wp2_with fail
        go_ret
        exact ⟨by simp, B0.trans (c1.mono B0.size)⟩
theorem code_forms {w : World} {v : Value} {l : List InsL} (h : CodeAt w v l) : ∃ a c, v = .slice a l.length c := by
  obtain ⟨la, c, hv, _⟩ := h.form
  exact ⟨la, c, hv⟩
/-- two codes -/
theorem codes_equal (v u : Value) (l m : List InsL) (w : World) (hl : CodeAt w v l) (hm : CodeAt w u m) (hl2 : ∀ x ∈ l, x.labels.length ≤ 9223372036854775807) (hm2 : ∀ x ∈ m, x.labels.length ≤ 9223372036854775807) :
    Calls Tryz.prog 87 #[v, u, .func (.func 88) #[] #[]] w fun e w' => e = .returned (.bool (sameL sameIns l m)) ∧ Below w.heap.size w w' := by
  obtain ⟨rows, hr, hlr, hx⟩ := hl
  obtain ⟨cols, hc, hlc, hy⟩ := hm
  have hr0 := hr
  have hc0 := hc
  obtain ⟨la, c, rfl, _, _⟩ := hr
  obtain ⟨lb, d, rfl, _, _⟩ := hc
  have form : ∀ {rws : List (List Value)} {k : List InsL}, rws.length = k.length → (∀ i r x, rws[i]? = some r → k[i]? = some x → isIns w r x) → ∀ r ∈ rws, ∃ a s t b n c, r = [.int .i64 a, .int .i64 s, .int .i64 t, .slice b n c] := fun {rws k} he hf r hr => by
    obtain ⟨j, hj⟩ := List.getElem?_of_mem hr
    have hjl : j < k.length := by have := (List.getElem?_eq_some_iff.1 hj).1; omega
    obtain ⟨lv, rfl, hi, _⟩ := hf j r _ hj (List.getElem?_eq_getElem hjl)
    obtain ⟨a, c, rfl⟩ := intsAt_form hi
    exact ⟨_, _, _, _, _, _, rfl⟩
  have h := equalf_ins la lb c d rows cols (pairP sameIns l m) 88 (enters_of Tryz.func88 (by kernel_rfl) rfl) w hr0 hc0 (form hlr hx) (form hlc hy) (fun W j r1 r2 h1 h2 hb => by
    have hj1 : j < l.length := by have := (List.getElem?_eq_some_iff.1 h1).1; omega
    have hj2 : j < m.length := by have := (List.getElem?_eq_some_iff.1 h2).1; omega
    obtain ⟨lv, rfl, hi, _⟩ := hx j r1 _ h1 (List.getElem?_eq_getElem hj1)
    obtain ⟨mv, rfl, hi2, _⟩ := hy j r2 _ h2 (List.getElem?_eq_getElem hj2)
    rw [pairP_some (List.getElem?_eq_getElem hj1) (List.getElem?_eq_getElem hj2)]
    obtain ⟨a1, c1, rfl⟩ := intsAt_form hi
    obtain ⟨a2, c2, rfl⟩ := intsAt_form hi2
    exact sameIns_any _ _ _ _ _ _ a1 a2 _ c1 _ c2 _ _ W (intsAt_later hi hb) (intsAt_later hi2 hb) (hl2 _ (List.getElem_mem hj1)) (hm2 _ (List.getElem_mem hj2)))
  rw [sameL_eq, ← hlr, ← hlc]
  exact h
set_option maxRecDepth 100000 in
set_option maxHeartbeats 1000000 in
theorem sameFn_any (t t2 : Int) (s s2 : ByteArray) (la lb : Option Addr) (n c m d : Nat) (k q : List InsL) (w : World) (hk : CodeAt w (.slice la n c) k) (hq : CodeAt w (.slice lb m d) q) (hl2 : ∀ x ∈ k, x.labels.length ≤ 9223372036854775807) (hm2 : ∀ x ∈ q, x.labels.length ≤ 9223372036854775807) :
    Calls Tryz.prog 48 #[.agg #[.int .i64 t, .string s, .slice la n c], .agg #[.int .i64 t2, .string s2, .slice lb m d]] w fun e w' => e = .returned (.bool (t == t2 && (eqS s s2 && sameL sameIns k q))) ∧ Below w.heap.size w w' := by
  have B0 : Below w.heap.size w ((w.alloc (.cells #[.int .i64 t, .string s, .slice la n c] 33)).alloc (.cells #[.int .i64 t2, .string s2, .slice lb m d] 33)) := ((Below.refl _ _).alloc (Nat.le_refl _) _).alloc (by simp) _
  have hcall := codes_equal _ _ k q _ (hk.later lasts_ins B0) (hq.later lasts_ins B0) hl2 hm2
  obtain ⟨Q, hQ⟩ : ∃ Q, sameL sameIns k q = Q := ⟨_, rfl⟩
  rw [hQ] at hcall ⊢
  clear hQ hk hq hl2 hm2
  unfold eqS
  cases h1 : (t == t2)
  · go_enter Tryz.func48, Tryz.ntmps48
    go_wp2_with fail
    go_ret
    exact ⟨rfl, B0⟩
  · cases h2 : (s.toList == s2.toList)
    · go_enter Tryz.func48, Tryz.ntmps48
      go_wp2_with fail
      go_ret
      exact ⟨rfl, B0⟩
    · go_enter Tryz.func48, Tryz.ntmps48
      go_wp2_with fail
      refine hcall.mono ?_
      rintro e w1 ⟨rfl, c1⟩
      go_wp2_with fail
      go_ret
      exact ⟨by simp, B0.trans (c1.mono B0.size)⟩
def Labs (l : List InsL) : Prop := ∀ x ∈ l, x.labels.length ≤ 9223372036854775807
theorem funcs_equal (v u : Value) (l m : List FuncP) (w : World) (hl : FuncsAt w v l) (hm : FuncsAt w u m) (hl2 : ∀ x ∈ l, Labs x.code) (hm2 : ∀ x ∈ m, Labs x.code) :
    Calls Tryz.prog 47 #[v, u, .func (.func 48) #[] #[]] w fun e w' => e = .returned (.bool (sameL sameFn l m)) ∧ Below w.heap.size w w' := by
  obtain ⟨rows, hr, hlr, hx⟩ := hl
  obtain ⟨cols, hc, hlc, hy⟩ := hm
  have hr0 := hr
  have hc0 := hc
  obtain ⟨la, c, rfl, _, _⟩ := hr
  obtain ⟨lb, d, rfl, _, _⟩ := hc
  have form : ∀ {rws : List (List Value)} {k : List FuncP}, rws.length = k.length → (∀ i r x, rws[i]? = some r → k[i]? = some x → isFunc w r x) → ∀ r ∈ rws, ∃ a s b n c, r = [.int .i64 a, .string s, .slice b n c] := fun {rws k} he hf r hr => by
    obtain ⟨j, hj⟩ := List.getElem?_of_mem hr
    have hjl : j < k.length := by have := (List.getElem?_eq_some_iff.1 hj).1; omega
    obtain ⟨cv, rfl, hi, _⟩ := hf j r _ hj (List.getElem?_eq_getElem hjl)
    obtain ⟨a, c, rfl⟩ := code_forms hi
    exact ⟨_, _, _, _, _, rfl⟩
  have h := equalf_func la lb c d rows cols (pairP sameFn l m) 48 (enters_of Tryz.func48 (by kernel_rfl) rfl) w hr0 hc0 (form hlr hx) (form hlc hy) (fun W j r1 r2 h1 h2 hb => by
    have hj1 : j < l.length := by have := (List.getElem?_eq_some_iff.1 h1).1; omega
    have hj2 : j < m.length := by have := (List.getElem?_eq_some_iff.1 h2).1; omega
    obtain ⟨lv, rfl, hi, _⟩ := hx j r1 _ h1 (List.getElem?_eq_getElem hj1)
    obtain ⟨mv, rfl, hi2, _⟩ := hy j r2 _ h2 (List.getElem?_eq_getElem hj2)
    rw [pairP_some (List.getElem?_eq_getElem hj1) (List.getElem?_eq_getElem hj2)]
    obtain ⟨a1, c1, rfl⟩ := code_forms hi
    obtain ⟨a2, c2, rfl⟩ := code_forms hi2
    exact sameFn_any _ _ _ _ a1 a2 _ c1 _ c2 _ _ W (hi.later lasts_ins hb) (hi2.later lasts_ins hb) (hl2 _ (List.getElem_mem hj1)) (hm2 _ (List.getElem_mem hj2)))
  rw [sameL_eq, ← hlr, ← hlc]
  exact h
theorem eqs_ft (v u : Value) (l m : List FT) (w : World) (hl : TypesAt w v l) (hm : TypesAt w u m) :
    Calls Tryz.prog 46 #[v, u] w fun e w' => e = .returned (.bool (sameL eq_ft l m)) ∧ Below w.heap.size w w' := by
  obtain ⟨rows, hr, hlr, hx⟩ := hl
  obtain ⟨cols, hc, hlc, hy⟩ := hm
  have hr0 := hr
  have hc0 := hc
  obtain ⟨la, c, rfl, _, _⟩ := hr
  obtain ⟨lb, d, rfl, _, _⟩ := hc
  have h := equal_ft la lb c d rows cols (pairP eq_ft l m) w hr0 hc0 (fun j r1 r2 h1 h2 W => by
    have hj1 : j < l.length := by have := (List.getElem?_eq_some_iff.1 h1).1; omega
    have hj2 : j < m.length := by have := (List.getElem?_eq_some_iff.1 h2).1; omega
    obtain ⟨rfl, _⟩ := hx j r1 _ h1 (List.getElem?_eq_getElem hj1)
    obtain ⟨rfl, _⟩ := hy j r2 _ h2 (List.getElem?_eq_getElem hj2)
    rw [pairP_some (List.getElem?_eq_getElem hj1) (List.getElem?_eq_getElem hj2)]
    exact neq_ft _ _ W)
  rw [sameL_eq, ← hlr, ← hlc]
  exact h
theorem eqs_mem (v u : Value) (l m : List MemP) (w : World) (hl : MemsAt w v l) (hm : MemsAt w u m) :
    Calls Tryz.prog 49 #[v, u] w fun e w' => e = .returned (.bool (sameL eq_mem l m)) ∧ Below w.heap.size w w' := by
  obtain ⟨rows, hr, hlr, hx⟩ := hl
  obtain ⟨cols, hc, hlc, hy⟩ := hm
  have hr0 := hr
  have hc0 := hc
  obtain ⟨la, c, rfl, _, _⟩ := hr
  obtain ⟨lb, d, rfl, _, _⟩ := hc
  have h := equal_mem la lb c d rows cols (pairP eq_mem l m) w hr0 hc0 (fun j r1 r2 h1 h2 W => by
    have hj1 : j < l.length := by have := (List.getElem?_eq_some_iff.1 h1).1; omega
    have hj2 : j < m.length := by have := (List.getElem?_eq_some_iff.1 h2).1; omega
    obtain rfl := hx j r1 _ h1 (List.getElem?_eq_getElem hj1)
    obtain rfl := hy j r2 _ h2 (List.getElem?_eq_getElem hj2)
    rw [pairP_some (List.getElem?_eq_getElem hj1) (List.getElem?_eq_getElem hj2)]
    exact neq_mem _ _ W)
  rw [sameL_eq, ← hlr, ← hlc]
  exact h
theorem eqs_glob (v u : Value) (l m : List GlobP) (w : World) (hl : GlobsAt w v l) (hm : GlobsAt w u m) :
    Calls Tryz.prog 50 #[v, u] w fun e w' => e = .returned (.bool (sameL eq_glob l m)) ∧ Below w.heap.size w w' := by
  obtain ⟨rows, hr, hlr, hx⟩ := hl
  obtain ⟨cols, hc, hlc, hy⟩ := hm
  have hr0 := hr
  have hc0 := hc
  obtain ⟨la, c, rfl, _, _⟩ := hr
  obtain ⟨lb, d, rfl, _, _⟩ := hc
  have h := equal_glob la lb c d rows cols (pairP eq_glob l m) w hr0 hc0 (fun j r1 r2 h1 h2 W => by
    have hj1 : j < l.length := by have := (List.getElem?_eq_some_iff.1 h1).1; omega
    have hj2 : j < m.length := by have := (List.getElem?_eq_some_iff.1 h2).1; omega
    obtain rfl := hx j r1 _ h1 (List.getElem?_eq_getElem hj1)
    obtain rfl := hy j r2 _ h2 (List.getElem?_eq_getElem hj2)
    rw [pairP_some (List.getElem?_eq_getElem hj1) (List.getElem?_eq_getElem hj2)]
    exact neq_glob _ _ W)
  rw [sameL_eq, ← hlr, ← hlc]
  exact h
theorem eqs_exp (v u : Value) (l m : List ExpP) (w : World) (hl : ExpsAt w v l) (hm : ExpsAt w u m) :
    Calls Tryz.prog 51 #[v, u] w fun e w' => e = .returned (.bool (sameL eq_exp l m)) ∧ Below w.heap.size w w' := by
  obtain ⟨rows, hr, hlr, hx⟩ := hl
  obtain ⟨cols, hc, hlc, hy⟩ := hm
  have hr0 := hr
  have hc0 := hc
  obtain ⟨la, c, rfl, _, _⟩ := hr
  obtain ⟨lb, d, rfl, _, _⟩ := hc
  have h := equal_exp la lb c d rows cols (pairP eq_exp l m) w hr0 hc0 (fun j r1 r2 h1 h2 W => by
    have hj1 : j < l.length := by have := (List.getElem?_eq_some_iff.1 h1).1; omega
    have hj2 : j < m.length := by have := (List.getElem?_eq_some_iff.1 h2).1; omega
    obtain ⟨rfl, _⟩ := hx j r1 _ h1 (List.getElem?_eq_getElem hj1)
    obtain ⟨rfl, _⟩ := hy j r2 _ h2 (List.getElem?_eq_getElem hj2)
    rw [pairP_some (List.getElem?_eq_getElem hj1) (List.getElem?_eq_getElem hj2)]
    exact neq_exp _ _ W)
  rw [sameL_eq, ← hlr, ← hlc]
  exact h
theorem eqs_data (v u : Value) (l m : List DataP) (w : World) (hl : DatasAt w v l) (hm : DatasAt w u m) :
    Calls Tryz.prog 52 #[v, u] w fun e w' => e = .returned (.bool (sameL eq_data l m)) ∧ Below w.heap.size w w' := by
  obtain ⟨rows, hr, hlr, hx⟩ := hl
  obtain ⟨cols, hc, hlc, hy⟩ := hm
  have hr0 := hr
  have hc0 := hc
  obtain ⟨la, c, rfl, _, _⟩ := hr
  obtain ⟨lb, d, rfl, _, _⟩ := hc
  have h := equal_data la lb c d rows cols (pairP eq_data l m) w hr0 hc0 (fun j r1 r2 h1 h2 W => by
    have hj1 : j < l.length := by have := (List.getElem?_eq_some_iff.1 h1).1; omega
    have hj2 : j < m.length := by have := (List.getElem?_eq_some_iff.1 h2).1; omega
    obtain ⟨rfl, _⟩ := hx j r1 _ h1 (List.getElem?_eq_getElem hj1)
    obtain ⟨rfl, _⟩ := hy j r2 _ h2 (List.getElem?_eq_getElem hj2)
    rw [pairP_some (List.getElem?_eq_getElem hj1) (List.getElem?_eq_getElem hj2)]
    exact neq_data _ _ W)
  rw [sameL_eq, ← hlr, ← hlc]
  exact h
def isSl (v : Value) : Prop := ∃ a n c, v = .slice a n c
theorem ListAt.isSl {α : Type} {size : Nat} {R : World → List Value → α → Prop} {w : World} {v : Value} {l : List α} (h : ListAt size R w v l) : isSl v := by
  obtain ⟨la, c, hv, _⟩ := h.form
  exact ⟨la, _, c, hv⟩
set_option maxRecDepth 100000 in
set_option maxHeartbeats 4000000 in
/-- Same -/
theorem sameM_any (t1 f1 me1 g1 e1 : Value) (st1 : Int) (d1 : Value) (t2 f2 me2 g2 e2 : Value) (st2 : Int) (d2 : Value) (m1 m2 : ModP) (w : World) (h1 : ModAt w t1 f1 me1 g1 e1 st1 d1 m1) (h2 : ModAt w t2 f2 me2 g2 e2 st2 d2 m2) (hl1 : ∀ x ∈ m1.funcs, Labs x.code) (hl2 : ∀ x ∈ m2.funcs, Labs x.code) :
    Calls Tryz.prog 14 #[modV t1 f1 me1 g1 e1 st1 d1, modV t2 f2 me2 g2 e2 st2 d2] w fun e w' => e = .returned (.bool (sameM m1 m2)) ∧ Below w.heap.size w w' := by
  have B0 : Below w.heap.size w ((w.alloc (.cells #[t1, f1, me1, g1, e1, .int .i64 st1, d1] 29)).alloc (.cells #[t2, f2, me2, g2, e2, .int .i64 st2, d2] 29)) := ((Below.refl _ _).alloc (Nat.le_refl _) _).alloc (by simp) _
  have h_ft := fun (W : World) (hb : Below w.heap.size w W) => eqs_ft t1 t2 m1.types m2.types W ((h1.later hb).types) ((h2.later hb).types)
  have h_func := fun (W : World) (hb : Below w.heap.size w W) => funcs_equal f1 f2 m1.funcs m2.funcs W ((h1.later hb).funcs) ((h2.later hb).funcs) hl1 hl2
  have h_mem := fun (W : World) (hb : Below w.heap.size w W) => eqs_mem me1 me2 m1.memory m2.memory W ((h1.later hb).memory) ((h2.later hb).memory)
  have h_glob := fun (W : World) (hb : Below w.heap.size w W) => eqs_glob g1 g2 m1.globals m2.globals W ((h1.later hb).globals) ((h2.later hb).globals)
  have h_exp := fun (W : World) (hb : Below w.heap.size w W) => eqs_exp e1 e2 m1.exports m2.exports W ((h1.later hb).exports) ((h2.later hb).exports)
  have h_data := fun (W : World) (hb : Below w.heap.size w W) => eqs_data d1 d2 m1.data m2.data W ((h1.later hb).data) ((h2.later hb).data)
  obtain ⟨Qft, hQft⟩ : ∃ Q, sameL eq_ft m1.types m2.types = Q := ⟨_, rfl⟩
  obtain ⟨Qfunc, hQfunc⟩ : ∃ Q, sameL sameFn m1.funcs m2.funcs = Q := ⟨_, rfl⟩
  obtain ⟨Qmem, hQmem⟩ : ∃ Q, sameL eq_mem m1.memory m2.memory = Q := ⟨_, rfl⟩
  obtain ⟨Qglob, hQglob⟩ : ∃ Q, sameL eq_glob m1.globals m2.globals = Q := ⟨_, rfl⟩
  obtain ⟨Qexp, hQexp⟩ : ∃ Q, sameL eq_exp m1.exports m2.exports = Q := ⟨_, rfl⟩
  obtain ⟨Qdata, hQdata⟩ : ∃ Q, sameL eq_data m1.data m2.data = Q := ⟨_, rfl⟩
  have hst1 := h1.start
  have hst2 := h2.start
  unfold sameM
  rw [← hst1, ← hst2, hQft, hQfunc, hQmem, hQglob, hQexp, hQdata]
  rw [hQft] at h_ft
  have H_ft := Lib.hid h_ft
  rw [hQfunc] at h_func
  have H_func := Lib.hid h_func
  rw [hQmem] at h_mem
  have H_mem := Lib.hid h_mem
  rw [hQglob] at h_glob
  have H_glob := Lib.hid h_glob
  rw [hQexp] at h_exp
  have H_exp := Lib.hid h_exp
  rw [hQdata] at h_data
  have H_data := Lib.hid h_data
  clear hQft h_ft hQfunc h_func hQmem h_mem hQglob h_glob hQexp h_exp hQdata h_data hst1 hst2
  clear h1 h2 hl1 hl2
  unfold modV
  have hlt0 : w.heap.size < ((w.alloc (.cells #[t1, f1, me1, g1, e1, .int .i64 st1, d1] 29)).alloc (.cells #[t2, f2, me2, g2, e2, .int .i64 st2, d2] 29)).heap.size := by simp; omega
  cases h0 : (st1 == st2)
  · go_enter Tryz.func14, Tryz.ntmps14
    go_wp2_with fail
    go_ret
    exact ⟨rfl, B0⟩
  · go_enter Tryz.func14, Tryz.ntmps14
    go_wp2_with fail
    refine (H_ft.out _ B0).mono ?_
    rintro e0x w1 ⟨rfl, c1⟩
    have x1_f1 : w1.cell? ⟨w.heap.size, 1, none⟩ = some f1 := cell_later c1 (by simp)
    have x1_f2 : w1.cell? ⟨w.heap.size + 1, 1, none⟩ = some f2 := cell_later c1 (by simp)
    have x1_me1 : w1.cell? ⟨w.heap.size, 2, none⟩ = some me1 := cell_later c1 (by simp)
    have x1_me2 : w1.cell? ⟨w.heap.size + 1, 2, none⟩ = some me2 := cell_later c1 (by simp)
    have x1_g1 : w1.cell? ⟨w.heap.size, 3, none⟩ = some g1 := cell_later c1 (by simp)
    have x1_g2 : w1.cell? ⟨w.heap.size + 1, 3, none⟩ = some g2 := cell_later c1 (by simp)
    have x1_e1 : w1.cell? ⟨w.heap.size, 4, none⟩ = some e1 := cell_later c1 (by simp)
    have x1_e2 : w1.cell? ⟨w.heap.size + 1, 4, none⟩ = some e2 := cell_later c1 (by simp)
    have x1_d1 : w1.cell? ⟨w.heap.size, 6, none⟩ = some d1 := cell_later c1 (by simp)
    have x1_d2 : w1.cell? ⟨w.heap.size + 1, 6, none⟩ = some d2 := cell_later c1 (by simp)
    have B1 := B0.trans (c1.mono B0.size)
    have l1 : w.heap.size + 1 < w1.heap.size := by have := c1.size; simp at this; omega
    have k1 : w.heap.size < w1.heap.size := by omega
    clear c1
    cases Qft with
    | false =>
      go_wp2_with fail
      go_ret
      exact ⟨by simp, B1⟩
    | true =>
      go_wp2_with fail
      refine (H_func.out _ B1).mono ?_
      rintro e1x w2 ⟨rfl, c2⟩
      have x2_me1 : w2.cell? ⟨w.heap.size, 2, none⟩ = some me1 := cell_later c2 x1_me1
      have x2_me2 : w2.cell? ⟨w.heap.size + 1, 2, none⟩ = some me2 := cell_later c2 x1_me2
      have x2_g1 : w2.cell? ⟨w.heap.size, 3, none⟩ = some g1 := cell_later c2 x1_g1
      have x2_g2 : w2.cell? ⟨w.heap.size + 1, 3, none⟩ = some g2 := cell_later c2 x1_g2
      have x2_e1 : w2.cell? ⟨w.heap.size, 4, none⟩ = some e1 := cell_later c2 x1_e1
      have x2_e2 : w2.cell? ⟨w.heap.size + 1, 4, none⟩ = some e2 := cell_later c2 x1_e2
      have x2_d1 : w2.cell? ⟨w.heap.size, 6, none⟩ = some d1 := cell_later c2 x1_d1
      have x2_d2 : w2.cell? ⟨w.heap.size + 1, 6, none⟩ = some d2 := cell_later c2 x1_d2
      have B2 := B1.trans (c2.mono B1.size)
      have l2 : w.heap.size + 1 < w2.heap.size := Nat.lt_of_lt_of_le l1 c2.size
      have k2 : w.heap.size < w2.heap.size := by omega
      clear c2 l1 k1 x1_f1 x1_f2 x1_me1 x1_me2 x1_g1 x1_g2 x1_e1 x1_e2 x1_d1 x1_d2
      cases Qfunc with
      | false =>
        go_wp2_with fail
        go_ret
        exact ⟨by simp, B2⟩
      | true =>
        go_wp2_with fail
        refine (H_mem.out _ B2).mono ?_
        rintro e2x w3 ⟨rfl, c3⟩
        have x3_g1 : w3.cell? ⟨w.heap.size, 3, none⟩ = some g1 := cell_later c3 x2_g1
        have x3_g2 : w3.cell? ⟨w.heap.size + 1, 3, none⟩ = some g2 := cell_later c3 x2_g2
        have x3_e1 : w3.cell? ⟨w.heap.size, 4, none⟩ = some e1 := cell_later c3 x2_e1
        have x3_e2 : w3.cell? ⟨w.heap.size + 1, 4, none⟩ = some e2 := cell_later c3 x2_e2
        have x3_d1 : w3.cell? ⟨w.heap.size, 6, none⟩ = some d1 := cell_later c3 x2_d1
        have x3_d2 : w3.cell? ⟨w.heap.size + 1, 6, none⟩ = some d2 := cell_later c3 x2_d2
        have B3 := B2.trans (c3.mono B2.size)
        have l3 : w.heap.size + 1 < w3.heap.size := Nat.lt_of_lt_of_le l2 c3.size
        have k3 : w.heap.size < w3.heap.size := by omega
        clear c3 l2 k2 x2_me1 x2_me2 x2_g1 x2_g2 x2_e1 x2_e2 x2_d1 x2_d2
        cases Qmem with
        | false =>
          go_wp2_with fail
          go_ret
          exact ⟨by simp, B3⟩
        | true =>
          go_wp2_with fail
          refine (H_glob.out _ B3).mono ?_
          rintro e3x w4 ⟨rfl, c4⟩
          have x4_e1 : w4.cell? ⟨w.heap.size, 4, none⟩ = some e1 := cell_later c4 x3_e1
          have x4_e2 : w4.cell? ⟨w.heap.size + 1, 4, none⟩ = some e2 := cell_later c4 x3_e2
          have x4_d1 : w4.cell? ⟨w.heap.size, 6, none⟩ = some d1 := cell_later c4 x3_d1
          have x4_d2 : w4.cell? ⟨w.heap.size + 1, 6, none⟩ = some d2 := cell_later c4 x3_d2
          have B4 := B3.trans (c4.mono B3.size)
          have l4 : w.heap.size + 1 < w4.heap.size := Nat.lt_of_lt_of_le l3 c4.size
          have k4 : w.heap.size < w4.heap.size := by omega
          clear c4 l3 k3 x3_g1 x3_g2 x3_e1 x3_e2 x3_d1 x3_d2
          cases Qglob with
          | false =>
            go_wp2_with fail
            go_ret
            exact ⟨by simp, B4⟩
          | true =>
            go_wp2_with fail
            refine (H_exp.out _ B4).mono ?_
            rintro e4x w5 ⟨rfl, c5⟩
            have x5_d1 : w5.cell? ⟨w.heap.size, 6, none⟩ = some d1 := cell_later c5 x4_d1
            have x5_d2 : w5.cell? ⟨w.heap.size + 1, 6, none⟩ = some d2 := cell_later c5 x4_d2
            have B5 := B4.trans (c5.mono B4.size)
            have l5 : w.heap.size + 1 < w5.heap.size := Nat.lt_of_lt_of_le l4 c5.size
            have k5 : w.heap.size < w5.heap.size := by omega
            clear c5 l4 k4 x4_e1 x4_e2 x4_d1 x4_d2
            cases Qexp with
            | false =>
              go_wp2_with fail
              go_ret
              exact ⟨by simp, B5⟩
            | true =>
              go_wp2_with fail
              refine (H_data.out _ B5).mono ?_
              rintro e5x w6 ⟨rfl, c6⟩
              have B6 := B5.trans (c6.mono B5.size)
              have l6 : w.heap.size + 1 < w6.heap.size := Nat.lt_of_lt_of_le l5 c6.size
              have k6 : w.heap.size < w6.heap.size := by omega
              clear c6 l5 k5 x5_d1 x5_d2
              go_wp2_with fail
              go_ret
              exact ⟨by simp, B6⟩
end Go.Proofs.YtkemaonhchklmaaGreatDoor.Mod
