/-
  What package module's Right answers of any module that lies in memory. No condition beyond what each theorem names.
-/
import Derived.Test.YtmbgemcddjailaaGreatDoorModC
import Derived.Test.YtmbgemcddjailaaGreatDoorModStruct
namespace Go.Proofs.YtmbgemcddjailaaGreatDoor.Mod
open Go.RowKit Go.Maps Go.Proofs.YtmbgemcddjailaaGreatDoor.Op
set_option linter.unusedVariables false
theorem MEnv.later {w w' : World} (h : MEnv w) (hb : Below w.heap.size w w') : MEnv w' := ⟨opEnv_later h.op hb, Utf8Tabs_below h.u8 hb⟩
def atP {α : Type} (q : α → Bool) (l : List α) (j : Nat) : Bool := match l[j]? with
  | some x => q x
  | none => true
theorem atP_some {α : Type} {q : α → Bool} {l : List α} {j : Nat} {x : α} (h : l[j]? = some x) : atP q l j = q x := by unfold atP; rw [h]
theorem ww (n : Int) : wrap64 (wrap32 n) = wrap32 n := by unfold wrap32 wrap64; omega
def rightFT (x : FT) : Bool := typesB x.params 4096 && typesB x.results 1
def rightMem (x : MemP) : Bool := wordB x.least && (x.most == -1 || wordB x.most)
def rightGlob (x : GlobP) : Bool := x.ty == 126 || (x.ty == 127 && x.init == wrap32 x.init)
def nameB (s : ByteArray) : Bool := Lib.validD s.data.toList
def rightExp (x : ExpP) : Bool := nameB x.name && ((x.kind == 0 || (x.kind == 2 || x.kind == 3)) && wordB x.index)
def rightData (x : DataP) : Bool := x.offset == wrap32 x.offset
def rightIns (x : InsL) : Bool := rightB x.op x.a x.b x.labels
def rightFunc (x : FuncP) : Bool := wordB x.ty && (typesB x.locals 4096 && (structB [] (opsOf x.code) && x.code.all rightIns))
def rightM (m : ModP) : Bool := (m.start == -1 || wordB m.start) && (allB m.types rightFT && (allB m.funcs rightFunc && (allB m.memory rightMem && (allB m.globals rightGlob && (allB m.exports rightExp && allB m.data rightData)))))
set_option maxRecDepth 100000 in
theorem name_any (s : ByteArray) (w : World) (hE : MEnv w) (hs : s.size ≤ 9223372036854775807) : Calls Tryz.prog 71 #[.string s] w fun e w' => e = .returned (.bool (nameB s)) ∧ Below w.heap.size w w' := by
  have hcall : Calls Tryz.prog 101 #[.string s] w fun e w' => e = .returned (.bool (nameB s)) ∧ Below w.heap.size w w' := Tryz.utf8_ValidString s w hs hE.u8
  obtain ⟨Q, hQ⟩ : ∃ Q, nameB s = Q := ⟨_, rfl⟩
  rw [hQ] at hcall ⊢
  clear hQ hE
  go_enter Tryz.func71, Tryz.ntmps71
  go_wp2_with (go_at_call 101; refine hcall.mono ?_; rintro e w' ⟨rfl, hb'⟩)
  go_ret
  exact ⟨rfl, hb'⟩
set_option maxRecDepth 100000 in
theorem r1_any (p r : ByteArray) (w : World) (hp : p.size ≤ 9223372036854775807) (hr : r.size ≤ 9223372036854775807) :
    Calls Tryz.prog 57 #[.agg #[.string p, .string r]] w fun e w' => e = .returned (.bool (typesB p 4096 && typesB r 1)) ∧ Below w.heap.size w w' := by
  have B0 : Below w.heap.size w (w.alloc (.cells #[.string p, .string r] 25)) := (Below.refl _ _).alloc (Nat.le_refl _) _
  have h1 := types_any p 4096 (w.alloc (.cells #[.string p, .string r] 25)) hp
  obtain ⟨Q, hQ⟩ : ∃ Q, typesB p 4096 = Q := ⟨_, rfl⟩
  rw [hQ] at h1 ⊢
  clear hQ
  cases Q with
  | false =>
    go_enter Tryz.func57, Tryz.ntmps57
    go_wp2_with (go_at_call 58; refine h1.mono ?_; rintro e w1 ⟨rfl, c1⟩)
    go_ret
    exact ⟨rfl, B0.trans (c1.mono B0.size)⟩
  | true =>
    go_enter Tryz.func57, Tryz.ntmps57
    go_wp2_with fail
    refine h1.mono ?_
    rintro e w1 ⟨rfl, c1⟩
    have x1 : w1.cell? ⟨w.heap.size, 1, none⟩ = some (.string r) := cell_later c1 (by simp)
    have B1 := B0.trans (c1.mono B0.size)
    have hlt : w.heap.size < w1.heap.size := by have := c1.size; simp at this; omega
    clear c1 h1
    go_wp2_with fail
    refine (types_any r 1 w1 hr).mono ?_
    rintro e w2 ⟨rfl, c2⟩
    go_wp2_with fail
    go_ret
    exact ⟨rfl, B1.trans (c2.mono B1.size)⟩
set_option maxRecDepth 100000 in
theorem r3_any (a b : Int) (w : World) :
    Calls Tryz.prog 66 #[.agg #[.int .i64 a, .int .i64 b]] w fun e w' => e = .returned (.bool (wordB a && (b == -1 || wordB b))) ∧ Below w.heap.size w w' := by
  have B0 : Below w.heap.size w (w.alloc (.cells #[.int .i64 a, .int .i64 b] 55)) := (Below.refl _ _).alloc (Nat.le_refl _) _
  have h1 := word_one a (w.alloc (.cells #[.int .i64 a, .int .i64 b] 55))
  have h2 := word_one b (w.alloc (.cells #[.int .i64 a, .int .i64 b] 55))
  obtain ⟨Q, hQ⟩ : ∃ Q, wordB a = Q := ⟨_, rfl⟩
  obtain ⟨Q2, hQ2⟩ : ∃ Q, wordB b = Q := ⟨_, rfl⟩
  rw [hQ] at h1 ⊢
  rw [hQ2] at h2 ⊢
  clear hQ hQ2
  cases Q with
  | false =>
    go_enter Tryz.func66, Tryz.ntmps66
    go_wp2_with (go_at_call 55; refine h1.mono ?_; rintro e w1 ⟨rfl, rfl⟩)
    go_ret
    exact ⟨rfl, B0⟩
  | true =>
    cases hb : (b == -1)
    · go_enter Tryz.func66, Tryz.ntmps66
      go_wp2_with fail
      refine h1.mono ?_
      rintro e w1 ⟨rfl, rfl⟩
      go_wp2_with fail
      refine h2.mono ?_
      rintro e w1 ⟨rfl, rfl⟩
      go_wp2_with fail
      go_ret
      exact ⟨rfl, B0⟩
    · go_enter Tryz.func66, Tryz.ntmps66
      go_wp2_with fail
      refine h1.mono ?_
      rintro e w1 ⟨rfl, rfl⟩
      go_wp2_with fail
      go_ret
      exact ⟨rfl, B0⟩
set_option maxRecDepth 100000 in
theorem r4_any (t : Int) (m : Bool) (n : Int) (w : World) :
    Calls Tryz.prog 68 #[.agg #[.int .i64 t, .bool m, .int .i64 n]] w fun e w' => e = .returned (.bool (t == 126 || (t == 127 && n == wrap32 n))) ∧ Below w.heap.size w w' := by
  have B0 : Below w.heap.size w (w.alloc (.cells #[.int .i64 t, .bool m, .int .i64 n] 35)) := (Below.refl _ _).alloc (Nat.le_refl _) _
  have hww := ww n
  cases h1 : (t == 126)
  · cases h2 : (t == 127)
    · go_enter Tryz.func68, Tryz.ntmps68
      go_wp2_with fail
      go_ret
      exact ⟨rfl, B0⟩
    · go_enter Tryz.func68, Tryz.ntmps68
      go_wp2_with fail
      go_ret
      exact ⟨rfl, B0⟩
  · go_enter Tryz.func68, Tryz.ntmps68
    go_wp2_with fail
    go_ret
    exact ⟨rfl, B0⟩
set_option maxRecDepth 100000 in
theorem r6_any (o : Int) (s : ByteArray) (w : World) :
    Calls Tryz.prog 73 #[.agg #[.int .i64 o, .string s]] w fun e w' => e = .returned (.bool (o == wrap32 o)) ∧ Below w.heap.size w w' := by
  have B0 : Below w.heap.size w (w.alloc (.cells #[.int .i64 o, .string s] 57)) := (Below.refl _ _).alloc (Nat.le_refl _) _
  have hww := ww o
  go_enter Tryz.func73, Tryz.ntmps73
  go_wp2_with fail
  go_ret
  exact ⟨rfl, B0⟩
set_option maxRecDepth 100000 in
theorem r5_any (s : ByteArray) (k i : Int) (w : World) (hE : MEnv w) (hs : s.size ≤ 9223372036854775807) :
    Calls Tryz.prog 70 #[.agg #[.string s, .int .i64 k, .int .i64 i]] w fun e w' => e = .returned (.bool (nameB s && ((k == 0 || (k == 2 || k == 3)) && wordB i))) ∧ Below w.heap.size w w' := by
  have B0 : Below w.heap.size w (w.alloc (.cells #[.string s, .int .i64 k, .int .i64 i] 98)) := (Below.refl _ _).alloc (Nat.le_refl _) _
  have h1 := name_any s (w.alloc (.cells #[.string s, .int .i64 k, .int .i64 i] 98)) (hE.later B0) hs
  obtain ⟨Q, hQ⟩ : ∃ Q, nameB s = Q := ⟨_, rfl⟩
  rw [hQ] at h1 ⊢
  clear hQ hE
  cases Q with
  | false =>
    go_enter Tryz.func70, Tryz.ntmps70
    go_wp2_with (go_at_call 71; refine h1.mono ?_; rintro e w1 ⟨rfl, c1⟩)
    go_ret
    exact ⟨rfl, B0.trans (c1.mono B0.size)⟩
  | true =>
    have key : ∀ kk : Bool, (k == 0 || (k == 2 || k == 3)) = kk → (kk = false ∨ kk = true) := fun kk _ => by cases kk <;> simp
    clear key
    cases g0 : (k == 0)
    · cases g2 : (k == 2)
      · cases g3 : (k == 3)
        · go_enter Tryz.func70, Tryz.ntmps70
          go_wp2_with fail
          refine h1.mono ?_
          rintro e w1 ⟨rfl, c1⟩
          have x1 : w1.cell? ⟨w.heap.size, 1, none⟩ = some (.int .i64 k) := cell_later c1 (by simp)
          have x2 : w1.cell? ⟨w.heap.size, 2, none⟩ = some (.int .i64 i) := cell_later c1 (by simp)
          have B1 := B0.trans (c1.mono B0.size)
          have hlt : w.heap.size < w1.heap.size := by have := c1.size; simp at this; omega
          clear c1 h1
          go_wp2_with fail
          go_ret
          exact ⟨rfl, B1⟩
        · go_enter Tryz.func70, Tryz.ntmps70
          go_wp2_with fail
          refine h1.mono ?_
          rintro e w1 ⟨rfl, c1⟩
          have x1 : w1.cell? ⟨w.heap.size, 1, none⟩ = some (.int .i64 k) := cell_later c1 (by simp)
          have x2 : w1.cell? ⟨w.heap.size, 2, none⟩ = some (.int .i64 i) := cell_later c1 (by simp)
          have B1 := B0.trans (c1.mono B0.size)
          have hlt : w.heap.size < w1.heap.size := by have := c1.size; simp at this; omega
          clear c1 h1
          go_wp2_with fail
          refine (word_one i w1).mono ?_
          rintro e w2 ⟨rfl, rfl⟩
          go_wp2_with fail
          go_ret
          exact ⟨rfl, B1⟩
      · go_enter Tryz.func70, Tryz.ntmps70
        go_wp2_with fail
        refine h1.mono ?_
        rintro e w1 ⟨rfl, c1⟩
        have x1 : w1.cell? ⟨w.heap.size, 1, none⟩ = some (.int .i64 k) := cell_later c1 (by simp)
        have x2 : w1.cell? ⟨w.heap.size, 2, none⟩ = some (.int .i64 i) := cell_later c1 (by simp)
        have B1 := B0.trans (c1.mono B0.size)
        have hlt : w.heap.size < w1.heap.size := by have := c1.size; simp at this; omega
        clear c1 h1
        go_wp2_with fail
        refine (word_one i w1).mono ?_
        rintro e w2 ⟨rfl, rfl⟩
        go_wp2_with fail
        go_ret
        exact ⟨rfl, B1⟩
    · go_enter Tryz.func70, Tryz.ntmps70
      go_wp2_with fail
      refine h1.mono ?_
      rintro e w1 ⟨rfl, c1⟩
      have x1 : w1.cell? ⟨w.heap.size, 1, none⟩ = some (.int .i64 k) := cell_later c1 (by simp)
      have x2 : w1.cell? ⟨w.heap.size, 2, none⟩ = some (.int .i64 i) := cell_later c1 (by simp)
      have B1 := B0.trans (c1.mono B0.size)
      have hlt : w.heap.size < w1.heap.size := by have := c1.size; simp at this; omega
      clear c1 h1
      go_wp2_with fail
      refine (word_one i w1).mono ?_
      rintro e w2 ⟨rfl, rfl⟩
      go_wp2_with fail
      go_ret
      exact ⟨rfl, B1⟩
set_option maxRecDepth 100000 in
theorem r21_any (op a b : Int) (lv : Value) (zs : List Int) (w : World) (hE : OpEnv w) (hop : (Lit.int .i64 op).wf = true) (hl : IntsAt w lv zs) :
    Calls Tryz.prog 63 #[.agg #[.int .i64 op, .int .i64 a, .int .i64 b, lv]] w fun e w' => e = .returned (.bool (!rightB op a b zs)) ∧ Below w.heap.size w w' := by
  have B0 : Below w.heap.size w (w.alloc (.cells #[.int .i64 op, .int .i64 a, .int .i64 b, lv] 29)) := (Below.refl _ _).alloc (Nat.le_refl _) _
  have h1 := right_any op a b lv zs (w.alloc (.cells #[.int .i64 op, .int .i64 a, .int .i64 b, lv] 29)) (opEnv_later hE B0) hop (intsAt_later hl B0)
  obtain ⟨Q, hQ⟩ : ∃ Q, rightB op a b zs = Q := ⟨_, rfl⟩
  rw [hQ] at h1 ⊢
  clear hQ hE hop hl
  go_enter Tryz.func63, Tryz.ntmps63
  go_wp2_with (go_at_call 64; refine h1.mono ?_; rintro e w1 ⟨rfl, c1⟩)
  go_ret
  exact ⟨rfl, B0.trans (c1.mono B0.size)⟩
/-- all instructions of a code -/
theorem contIns_any (v : Value) (l : List InsL) (w : World) (hE : OpEnv w) (hc : CodeAt w v l) :
    Calls Tryz.prog 62 #[v, .func (.func 63) #[] #[]] w fun e w' => e = .returned (.bool (!l.all rightIns)) ∧ Below w.heap.size w w' := by
  have hc0 := hc
  obtain ⟨rows, hrow, hlen, hx⟩ := hc
  have hrow0 := hrow
  obtain ⟨la, c, rfl, _, hr⟩ := hrow
  have h1 := cont_ins la c rows (atP (fun x => !rightIns x) l) 63 #[] (enters_of Tryz.func63 (by kernel_rfl) rfl) w hrow0 (fun W j r hj hb => by
    have hjl : j < l.length := by have := (List.getElem?_eq_some_iff.1 hj).1; omega
    have hjx : l[j]? = some l[j] := List.getElem?_eq_getElem hjl
    obtain ⟨lv, rfl, hi, hop⟩ := hx j r _ hj hjx
    rw [atP_some hjx]
    exact r21_any _ _ _ lv _ W (opEnv_later hE hb) hop (intsAt_later hi hb))
  rw [hlen] at h1
  rw [← anyN_not l rightIns (atP (fun x => !rightIns x) l) (fun j x hj => atP_some hj)]
  rw [hlen]
  exact h1
set_option maxRecDepth 100000 in
set_option maxHeartbeats 1000000 in
theorem r2_any (t : Int) (s : ByteArray) (v : Value) (l : List InsL) (w : World) (hE : MEnv w) (hs : s.size ≤ 9223372036854775807) (hc : CodeAt w v l) (hroom : l.length * 48 ≤ 140737488355328) :
    Calls Tryz.prog 60 #[.agg #[.int .i64 t, .string s, v]] w fun e w' => e = .returned (.bool (wordB t && (typesB s 4096 && (structB [] (opsOf l) && l.all rightIns)))) ∧ Below w.heap.size w w' := by
  have B0 : Below w.heap.size w (w.alloc (.cells #[.int .i64 t, .string s, v] 32)) := (Below.refl _ _).alloc (Nat.le_refl _) _
  have h1 := word_one t (w.alloc (.cells #[.int .i64 t, .string s, v] 32))
  have h2 := types_any s 4096 (w.alloc (.cells #[.int .i64 t, .string s, v] 32)) hs
  have h3 := fun (W : World) (hb : Below w.heap.size w W) => struct_any l v W (hc.later lasts_ins hb) hroom
  have h4 := fun (W : World) (hb : Below w.heap.size w W) => contIns_any v l W (hE.later hb).op (hc.later lasts_ins hb)
  obtain ⟨Q1, hQ1⟩ : ∃ Q, wordB t = Q := ⟨_, rfl⟩
  obtain ⟨Q2, hQ2⟩ : ∃ Q, typesB s 4096 = Q := ⟨_, rfl⟩
  obtain ⟨Q3, hQ3⟩ : ∃ Q, structB [] (opsOf l) = Q := ⟨_, rfl⟩
  obtain ⟨Q4, hQ4⟩ : ∃ Q, l.all rightIns = Q := ⟨_, rfl⟩
  rw [hQ1] at h1 ⊢
  rw [hQ2] at h2 ⊢
  rw [hQ3] at h3 ⊢
  rw [hQ4] at h4 ⊢
  have H3 := Lib.hid h3
  have H4 := Lib.hid h4
  clear hQ1 hQ2 hQ3 hQ4 h3 h4 hE hc
  cases Q1 with
  | false =>
    go_enter Tryz.func60, Tryz.ntmps60
    go_wp2_with fail
    refine h1.mono ?_
    rintro e w1 ⟨rfl, rfl⟩
    go_wp2_with fail
    go_ret
    exact ⟨rfl, B0⟩
  | true =>
    go_enter Tryz.func60, Tryz.ntmps60
    go_wp2_with fail
    refine h1.mono ?_
    rintro e w1 ⟨rfl, rfl⟩
    go_wp2_with fail
    refine h2.mono ?_
    rintro e w2 ⟨rfl, c2⟩
    have x2 : w2.cell? ⟨w.heap.size, 2, none⟩ = some v := cell_later c2 (by simp)
    have B2 := B0.trans (c2.mono B0.size)
    have hlt : w.heap.size < w2.heap.size := by have := c2.size; simp at this; omega
    clear c2 h1 h2
    cases Q2 with
    | false =>
      go_wp2_with fail
      go_ret
      exact ⟨rfl, B2⟩
    | true =>
      go_wp2_with fail
      refine (H3.out w2 B2).mono ?_
      rintro e w3 ⟨rfl, c3⟩
      have y2 : w3.cell? ⟨w.heap.size, 2, none⟩ = some v := cell_later c3 x2
      have B3 := B2.trans (c3.mono B2.size)
      have hlt3 : w.heap.size < w3.heap.size := Nat.lt_of_lt_of_le hlt c3.size
      clear c3 x2 hlt
      cases Q3 with
      | false =>
        go_wp2_with fail
        go_ret
        exact ⟨rfl, B3⟩
      | true =>
        go_wp2_with fail
        refine (H4.out w3 B3).mono ?_
        rintro e w4 ⟨rfl, c4⟩
        go_wp2_with fail
        go_ret
        exact ⟨by simp, B3.trans (c4.mono B3.size)⟩
theorem each_ft (v : Value) (l : List FT) (w : World) (hE : MEnv w) (hl : TypesAt w v l) :
    Calls Tryz.prog 56 #[v, .func (.func 57) #[] #[]] w fun e w' => e = .returned (.bool (allB l rightFT)) ∧ Below w.heap.size w w' := by
  obtain ⟨rows, hrow, hlen, hx⟩ := hl
  have hrow0 := hrow
  obtain ⟨la, c, rfl, _, hr⟩ := hrow
  have h1 := all_ft la c rows (atP rightFT l) 57 (enters_of Tryz.func57 (by kernel_rfl) rfl) w hrow0 (fun W j r hj hb => by
    have hjl : j < l.length := by have := (List.getElem?_eq_some_iff.1 hj).1; omega
    have hjx : l[j]? = some l[j] := List.getElem?_eq_getElem hjl
    rw [atP_some hjx]
    obtain ⟨rfl, h1, h2⟩ := hx j r _ hj hjx
    exact r1_any _ _ W h1 h2)
  rw [hlen] at h1
  unfold allB
  rw [anyN_not l rightFT _ (fun j x hj => congrArg (! ·) (atP_some hj)), Bool.not_not] at h1
  rw [hlen]
  exact h1
theorem each_func (v : Value) (l : List FuncP) (w : World) (hE : MEnv w) (hl : FuncsAt w v l) :
    Calls Tryz.prog 59 #[v, .func (.func 60) #[] #[]] w fun e w' => e = .returned (.bool (allB l rightFunc)) ∧ Below w.heap.size w w' := by
  obtain ⟨rows, hrow, hlen, hx⟩ := hl
  have hrow0 := hrow
  obtain ⟨la, c, rfl, _, hr⟩ := hrow
  have h1 := all_func la c rows (atP rightFunc l) 60 (enters_of Tryz.func60 (by kernel_rfl) rfl) w hrow0 (fun W j r hj hb => by
    have hjl : j < l.length := by have := (List.getElem?_eq_some_iff.1 hj).1; omega
    have hjx : l[j]? = some l[j] := List.getElem?_eq_getElem hjl
    rw [atP_some hjx]
    obtain ⟨cv, rfl, h1, h2, h3⟩ := hx j r _ hj hjx
    exact r2_any _ _ cv _ W (hE.later hb) h2 (h1.later lasts_ins hb) h3)
  rw [hlen] at h1
  unfold allB
  rw [anyN_not l rightFunc _ (fun j x hj => congrArg (! ·) (atP_some hj)), Bool.not_not] at h1
  rw [hlen]
  exact h1
theorem each_mem (v : Value) (l : List MemP) (w : World) (hE : MEnv w) (hl : MemsAt w v l) :
    Calls Tryz.prog 65 #[v, .func (.func 66) #[] #[]] w fun e w' => e = .returned (.bool (allB l rightMem)) ∧ Below w.heap.size w w' := by
  obtain ⟨rows, hrow, hlen, hx⟩ := hl
  have hrow0 := hrow
  obtain ⟨la, c, rfl, _, hr⟩ := hrow
  have h1 := all_mem la c rows (atP rightMem l) 66 (enters_of Tryz.func66 (by kernel_rfl) rfl) w hrow0 (fun W j r hj hb => by
    have hjl : j < l.length := by have := (List.getElem?_eq_some_iff.1 hj).1; omega
    have hjx : l[j]? = some l[j] := List.getElem?_eq_getElem hjl
    rw [atP_some hjx]
    obtain rfl := hx j r _ hj hjx
    exact r3_any _ _ W)
  rw [hlen] at h1
  unfold allB
  rw [anyN_not l rightMem _ (fun j x hj => congrArg (! ·) (atP_some hj)), Bool.not_not] at h1
  rw [hlen]
  exact h1
theorem each_glob (v : Value) (l : List GlobP) (w : World) (hE : MEnv w) (hl : GlobsAt w v l) :
    Calls Tryz.prog 67 #[v, .func (.func 68) #[] #[]] w fun e w' => e = .returned (.bool (allB l rightGlob)) ∧ Below w.heap.size w w' := by
  obtain ⟨rows, hrow, hlen, hx⟩ := hl
  have hrow0 := hrow
  obtain ⟨la, c, rfl, _, hr⟩ := hrow
  have h1 := all_glob la c rows (atP rightGlob l) 68 (enters_of Tryz.func68 (by kernel_rfl) rfl) w hrow0 (fun W j r hj hb => by
    have hjl : j < l.length := by have := (List.getElem?_eq_some_iff.1 hj).1; omega
    have hjx : l[j]? = some l[j] := List.getElem?_eq_getElem hjl
    rw [atP_some hjx]
    obtain rfl := hx j r _ hj hjx
    exact r4_any _ _ _ W)
  rw [hlen] at h1
  unfold allB
  rw [anyN_not l rightGlob _ (fun j x hj => congrArg (! ·) (atP_some hj)), Bool.not_not] at h1
  rw [hlen]
  exact h1
theorem each_exp (v : Value) (l : List ExpP) (w : World) (hE : MEnv w) (hl : ExpsAt w v l) :
    Calls Tryz.prog 69 #[v, .func (.func 70) #[] #[]] w fun e w' => e = .returned (.bool (allB l rightExp)) ∧ Below w.heap.size w w' := by
  obtain ⟨rows, hrow, hlen, hx⟩ := hl
  have hrow0 := hrow
  obtain ⟨la, c, rfl, _, hr⟩ := hrow
  have h1 := all_exp la c rows (atP rightExp l) 70 (enters_of Tryz.func70 (by kernel_rfl) rfl) w hrow0 (fun W j r hj hb => by
    have hjl : j < l.length := by have := (List.getElem?_eq_some_iff.1 hj).1; omega
    have hjx : l[j]? = some l[j] := List.getElem?_eq_getElem hjl
    rw [atP_some hjx]
    obtain ⟨rfl, h1⟩ := hx j r _ hj hjx
    exact r5_any _ _ _ W (hE.later hb) h1)
  rw [hlen] at h1
  unfold allB
  rw [anyN_not l rightExp _ (fun j x hj => congrArg (! ·) (atP_some hj)), Bool.not_not] at h1
  rw [hlen]
  exact h1
theorem each_data (v : Value) (l : List DataP) (w : World) (hE : MEnv w) (hl : DatasAt w v l) :
    Calls Tryz.prog 72 #[v, .func (.func 73) #[] #[]] w fun e w' => e = .returned (.bool (allB l rightData)) ∧ Below w.heap.size w w' := by
  obtain ⟨rows, hrow, hlen, hx⟩ := hl
  have hrow0 := hrow
  obtain ⟨la, c, rfl, _, hr⟩ := hrow
  have h1 := all_data la c rows (atP rightData l) 73 (enters_of Tryz.func73 (by kernel_rfl) rfl) w hrow0 (fun W j r hj hb => by
    have hjl : j < l.length := by have := (List.getElem?_eq_some_iff.1 hj).1; omega
    have hjx : l[j]? = some l[j] := List.getElem?_eq_getElem hjl
    rw [atP_some hjx]
    obtain ⟨rfl, h1⟩ := hx j r _ hj hjx
    exact r6_any _ _ W)
  rw [hlen] at h1
  unfold allB
  rw [anyN_not l rightData _ (fun j x hj => congrArg (! ·) (atP_some hj)), Bool.not_not] at h1
  rw [hlen]
  exact h1
set_option maxRecDepth 100000 in
set_option maxHeartbeats 4000000 in
/-- Right -/
theorem rightM_any (t f me g e : Value) (st : Int) (d : Value) (m : ModP) (w : World) (hE : MEnv w) (hm : ModAt w t f me g e st d m) :
    Calls Tryz.prog 28 #[modV t f me g e st d] w fun e w' => e = .returned (.bool (rightM m)) ∧ Below w.heap.size w w' := by
  have B0 : Below w.heap.size w (w.alloc (.cells #[t, f, me, g, e, .int .i64 st, d] 41)) := (Below.refl _ _).alloc (Nat.le_refl _) _
  have h_ft := fun (W : World) (hb : Below w.heap.size w W) => each_ft t m.types W (hE.later hb) ((hm.later hb).types)
  have h_func := fun (W : World) (hb : Below w.heap.size w W) => each_func f m.funcs W (hE.later hb) ((hm.later hb).funcs)
  have h_mem := fun (W : World) (hb : Below w.heap.size w W) => each_mem me m.memory W (hE.later hb) ((hm.later hb).memory)
  have h_glob := fun (W : World) (hb : Below w.heap.size w W) => each_glob g m.globals W (hE.later hb) ((hm.later hb).globals)
  have h_exp := fun (W : World) (hb : Below w.heap.size w W) => each_exp e m.exports W (hE.later hb) ((hm.later hb).exports)
  have h_data := fun (W : World) (hb : Below w.heap.size w W) => each_data d m.data W (hE.later hb) ((hm.later hb).data)
  obtain ⟨Qft, hQft⟩ : ∃ Q, allB m.types rightFT = Q := ⟨_, rfl⟩
  obtain ⟨Qfunc, hQfunc⟩ : ∃ Q, allB m.funcs rightFunc = Q := ⟨_, rfl⟩
  obtain ⟨Qmem, hQmem⟩ : ∃ Q, allB m.memory rightMem = Q := ⟨_, rfl⟩
  obtain ⟨Qglob, hQglob⟩ : ∃ Q, allB m.globals rightGlob = Q := ⟨_, rfl⟩
  obtain ⟨Qexp, hQexp⟩ : ∃ Q, allB m.exports rightExp = Q := ⟨_, rfl⟩
  obtain ⟨Qdata, hQdata⟩ : ∃ Q, allB m.data rightData = Q := ⟨_, rfl⟩
  have hst := hm.start
  unfold rightM
  rw [← hst, hQft, hQfunc, hQmem, hQglob, hQexp, hQdata]
  rw [hQft] at h_ft
  have H_ft := Lib.hid h_ft
  rw [hQfunc] at h_func
  have H_func := Lib.hid h_func
  rw [hQmem] at h_mem
  have H_mem := Lib.hid h_mem
  rw [hQglob] at h_glob
  have H_glob := Lib.hid h_glob
  rw [hQexp] at h_exp
  have H_exp := Lib.hid h_exp
  rw [hQdata] at h_data
  have H_data := Lib.hid h_data
  clear hQft h_ft hQfunc h_func hQmem h_mem hQglob h_glob hQexp h_exp hQdata h_data hE hm hst
  have hw := word_one st (w.alloc (.cells #[t, f, me, g, e, .int .i64 st, d] 41))
  obtain ⟨QW, hQW⟩ : ∃ Q, wordB st = Q := ⟨_, rfl⟩
  rw [hQW] at hw ⊢
  clear hQW
  unfold modV
  cases h0 : (st == -1)
  · cases QW with
    | false =>
      go_enter Tryz.func28, Tryz.ntmps28
      go_wp2_with fail
      refine hw.mono ?_
      rintro e0 w0 ⟨rfl, rfl⟩
      go_wp2_with fail
      go_ret
      exact ⟨by simp, B0⟩
    | true =>
      go_enter Tryz.func28, Tryz.ntmps28
      go_wp2_with fail
      refine hw.mono ?_
      rintro e0 w0 ⟨rfl, rfl⟩
      go_wp2_with fail
      refine (H_ft.out _ B0).mono ?_
      rintro e0 w1 ⟨rfl, c1⟩
      have x1_f : w1.cell? ⟨w.heap.size, 1, none⟩ = some f := cell_later c1 (by simp)
      have x1_me : w1.cell? ⟨w.heap.size, 2, none⟩ = some me := cell_later c1 (by simp)
      have x1_g : w1.cell? ⟨w.heap.size, 3, none⟩ = some g := cell_later c1 (by simp)
      have x1_e : w1.cell? ⟨w.heap.size, 4, none⟩ = some e := cell_later c1 (by simp)
      have x1_d : w1.cell? ⟨w.heap.size, 6, none⟩ = some d := cell_later c1 (by simp)
      have B1 := B0.trans (c1.mono B0.size)
      have l1 : w.heap.size < w1.heap.size := by have := c1.size; simp at this; omega
      clear c1
      cases Qft with
      | false =>
        go_wp2_with fail
        go_ret
        exact ⟨by simp, B1⟩
      | true =>
        go_wp2_with fail
        refine (H_func.out _ B1).mono ?_
        rintro e1 w2 ⟨rfl, c2⟩
        have x2_me : w2.cell? ⟨w.heap.size, 2, none⟩ = some me := cell_later c2 x1_me
        have x2_g : w2.cell? ⟨w.heap.size, 3, none⟩ = some g := cell_later c2 x1_g
        have x2_e : w2.cell? ⟨w.heap.size, 4, none⟩ = some e := cell_later c2 x1_e
        have x2_d : w2.cell? ⟨w.heap.size, 6, none⟩ = some d := cell_later c2 x1_d
        have B2 := B1.trans (c2.mono B1.size)
        have l2 : w.heap.size < w2.heap.size := Nat.lt_of_lt_of_le l1 c2.size
        clear c2 l1 x1_f x1_me x1_g x1_e x1_d
        cases Qfunc with
        | false =>
          go_wp2_with fail
          go_ret
          exact ⟨by simp, B2⟩
        | true =>
          go_wp2_with fail
          refine (H_mem.out _ B2).mono ?_
          rintro e2 w3 ⟨rfl, c3⟩
          have x3_g : w3.cell? ⟨w.heap.size, 3, none⟩ = some g := cell_later c3 x2_g
          have x3_e : w3.cell? ⟨w.heap.size, 4, none⟩ = some e := cell_later c3 x2_e
          have x3_d : w3.cell? ⟨w.heap.size, 6, none⟩ = some d := cell_later c3 x2_d
          have B3 := B2.trans (c3.mono B2.size)
          have l3 : w.heap.size < w3.heap.size := Nat.lt_of_lt_of_le l2 c3.size
          clear c3 l2 x2_me x2_g x2_e x2_d
          cases Qmem with
          | false =>
            go_wp2_with fail
            go_ret
            exact ⟨by simp, B3⟩
          | true =>
            go_wp2_with fail
            refine (H_glob.out _ B3).mono ?_
            rintro e3 w4 ⟨rfl, c4⟩
            have x4_e : w4.cell? ⟨w.heap.size, 4, none⟩ = some e := cell_later c4 x3_e
            have x4_d : w4.cell? ⟨w.heap.size, 6, none⟩ = some d := cell_later c4 x3_d
            have B4 := B3.trans (c4.mono B3.size)
            have l4 : w.heap.size < w4.heap.size := Nat.lt_of_lt_of_le l3 c4.size
            clear c4 l3 x3_g x3_e x3_d
            cases Qglob with
            | false =>
              go_wp2_with fail
              go_ret
              exact ⟨by simp, B4⟩
            | true =>
              go_wp2_with fail
              refine (H_exp.out _ B4).mono ?_
              rintro e4 w5 ⟨rfl, c5⟩
              have x5_d : w5.cell? ⟨w.heap.size, 6, none⟩ = some d := cell_later c5 x4_d
              have B5 := B4.trans (c5.mono B4.size)
              have l5 : w.heap.size < w5.heap.size := Nat.lt_of_lt_of_le l4 c5.size
              clear c5 l4 x4_e x4_d
              cases Qexp with
              | false =>
                go_wp2_with fail
                go_ret
                exact ⟨by simp, B5⟩
              | true =>
                go_wp2_with fail
                refine (H_data.out _ B5).mono ?_
                rintro e5 w6 ⟨rfl, c6⟩
                have B6 := B5.trans (c6.mono B5.size)
                have l6 : w.heap.size < w6.heap.size := Nat.lt_of_lt_of_le l5 c6.size
                clear c6 l5 x5_d
                go_wp2_with fail
                go_ret
                exact ⟨by simp, B6⟩
  · go_enter Tryz.func28, Tryz.ntmps28
    go_wp2_with fail
    refine (H_ft.out _ B0).mono ?_
    rintro e0 w1 ⟨rfl, c1⟩
    have x1_f : w1.cell? ⟨w.heap.size, 1, none⟩ = some f := cell_later c1 (by simp)
    have x1_me : w1.cell? ⟨w.heap.size, 2, none⟩ = some me := cell_later c1 (by simp)
    have x1_g : w1.cell? ⟨w.heap.size, 3, none⟩ = some g := cell_later c1 (by simp)
    have x1_e : w1.cell? ⟨w.heap.size, 4, none⟩ = some e := cell_later c1 (by simp)
    have x1_d : w1.cell? ⟨w.heap.size, 6, none⟩ = some d := cell_later c1 (by simp)
    have B1 := B0.trans (c1.mono B0.size)
    have l1 : w.heap.size < w1.heap.size := by have := c1.size; simp at this; omega
    clear c1
    cases Qft with
    | false =>
      go_wp2_with fail
      go_ret
      exact ⟨by simp, B1⟩
    | true =>
      go_wp2_with fail
      refine (H_func.out _ B1).mono ?_
      rintro e1 w2 ⟨rfl, c2⟩
      have x2_me : w2.cell? ⟨w.heap.size, 2, none⟩ = some me := cell_later c2 x1_me
      have x2_g : w2.cell? ⟨w.heap.size, 3, none⟩ = some g := cell_later c2 x1_g
      have x2_e : w2.cell? ⟨w.heap.size, 4, none⟩ = some e := cell_later c2 x1_e
      have x2_d : w2.cell? ⟨w.heap.size, 6, none⟩ = some d := cell_later c2 x1_d
      have B2 := B1.trans (c2.mono B1.size)
      have l2 : w.heap.size < w2.heap.size := Nat.lt_of_lt_of_le l1 c2.size
      clear c2 l1 x1_f x1_me x1_g x1_e x1_d
      cases Qfunc with
      | false =>
        go_wp2_with fail
        go_ret
        exact ⟨by simp, B2⟩
      | true =>
        go_wp2_with fail
        refine (H_mem.out _ B2).mono ?_
        rintro e2 w3 ⟨rfl, c3⟩
        have x3_g : w3.cell? ⟨w.heap.size, 3, none⟩ = some g := cell_later c3 x2_g
        have x3_e : w3.cell? ⟨w.heap.size, 4, none⟩ = some e := cell_later c3 x2_e
        have x3_d : w3.cell? ⟨w.heap.size, 6, none⟩ = some d := cell_later c3 x2_d
        have B3 := B2.trans (c3.mono B2.size)
        have l3 : w.heap.size < w3.heap.size := Nat.lt_of_lt_of_le l2 c3.size
        clear c3 l2 x2_me x2_g x2_e x2_d
        cases Qmem with
        | false =>
          go_wp2_with fail
          go_ret
          exact ⟨by simp, B3⟩
        | true =>
          go_wp2_with fail
          refine (H_glob.out _ B3).mono ?_
          rintro e3 w4 ⟨rfl, c4⟩
          have x4_e : w4.cell? ⟨w.heap.size, 4, none⟩ = some e := cell_later c4 x3_e
          have x4_d : w4.cell? ⟨w.heap.size, 6, none⟩ = some d := cell_later c4 x3_d
          have B4 := B3.trans (c4.mono B3.size)
          have l4 : w.heap.size < w4.heap.size := Nat.lt_of_lt_of_le l3 c4.size
          clear c4 l3 x3_g x3_e x3_d
          cases Qglob with
          | false =>
            go_wp2_with fail
            go_ret
            exact ⟨by simp, B4⟩
          | true =>
            go_wp2_with fail
            refine (H_exp.out _ B4).mono ?_
            rintro e4 w5 ⟨rfl, c5⟩
            have x5_d : w5.cell? ⟨w.heap.size, 6, none⟩ = some d := cell_later c5 x4_d
            have B5 := B4.trans (c5.mono B4.size)
            have l5 : w.heap.size < w5.heap.size := Nat.lt_of_lt_of_le l4 c5.size
            clear c5 l4 x4_e x4_d
            cases Qexp with
            | false =>
              go_wp2_with fail
              go_ret
              exact ⟨by simp, B5⟩
            | true =>
              go_wp2_with fail
              refine (H_data.out _ B5).mono ?_
              rintro e5 w6 ⟨rfl, c6⟩
              have B6 := B5.trans (c6.mono B5.size)
              have l6 : w.heap.size < w6.heap.size := Nat.lt_of_lt_of_le l5 c6.size
              clear c6 l5 x5_d
              go_wp2_with fail
              go_ret
              exact ⟨by simp, B6⟩
end Go.Proofs.YtmbgemcddjailaaGreatDoor.Mod
