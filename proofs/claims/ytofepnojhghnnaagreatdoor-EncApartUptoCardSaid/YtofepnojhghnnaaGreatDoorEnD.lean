/-
  EncMod, EncModB, EncEx in one.
-/
import Derived.Test.YtofepnojhghnnaaGreatDoorEnC
import Derived.Laws.EntriesVeiled
import Derived.Test.YtofepnojhghnnaaGreatDoorModExA
/- EncMod: What package enc's Module answers of any module. No condition beyond what each theorem names. -/
namespace Go.Proofs.YtofepnojhghnnaaGreatDoor.Enc
open Go.RowKit Go.Maps Go.Proofs.YtofepnojhghnnaaGreatDoor.Op Go.Proofs.YtofepnojhghnnaaGreatDoor.Mod Go.Proofs.YtofepnojhghnnaaGreatDoor.Leb Go.Proofs.YtofepnojhghnnaaGreatDoor.Bytes
set_option linter.unusedVariables false
def outOf {α : Type} (f : α → List UInt8) (l : List α) (j : Nat) : List UInt8 := ((l[j]?).map f).getD []
theorem outOf_at {α : Type} {f : α → List UInt8} {l : List α} {j : Nat} {x : α} (h : l[j]? = some x) : outOf f l j = f x := by unfold outOf; rw [h]; rfl
theorem outs_outOf {α : Type} (f : α → List UInt8) (l : List α) : outs (outOf f l) l.length = l.flatMap f := outs_list f _ l fun j x h => outOf_at h
theorem rows_of {α : Type} {size : Nat} {R : World → List Value → α → Prop} {w : World} {v : Value} {l : List α} (h : ListAt size R w v l) : ∃ la c rows, v = .slice la rows.length c ∧ rows.length = l.length ∧ RowAt w size (.slice la rows.length c) rows ∧ ∀ (i : Nat) r, rows[i]? = some r → ∃ x, l[i]? = some x ∧ R w r x := by
  obtain ⟨rows, ⟨la, c, hv, h1⟩, hl, hx⟩ := h
  refine ⟨la, c, rows, hv, hl, ⟨la, c, rfl, h1⟩, fun i r hr => ?_⟩
  have hi := (List.getElem?_eq_some_iff.1 hr).1
  have hx2 := List.getElem?_eq_getElem (show i < l.length by omega)
  exact ⟨_, hx2, hx i r _ hr hx2⟩
theorem below_same {B : Nat} {w w' : World} (h : w'.heap = w.heap) (ho : w'.os = w.os) (ht : w'.tape = w.tape) (hp : w'.output = w.output) : Below B w w' := ⟨ho, ht, hp, by rw [h]; exact Nat.le_refl _, fun k _ => by rw [h]⟩
set_option maxRecDepth 100000 in
set_option maxHeartbeats 1000000 in
theorem plist_ft (v : Value) (l : List FT) (w0 w : World) (hl : TypesAt w0 v l) (hB : Below w0.heap.size w0 w) (hsz : ∀ p ∈ l, p.params.size ≤ 140737488355328 ∧ p.results.size ≤ 140737488355328) (hlen : (listL ftL l).length ≤ 140737488355328) :
    Calls Tryz.prog 28 #[v, .func (.func 29) #[] #[]] w fun e w' => e = .returned (.string (bs (listL ftL l))) ∧ Below w.heap.size w w' := by
  obtain ⟨la, c, rows, rfl, hrl, hrow, hx⟩ := rows_of hl
  have hrow2 := hrow.later hB
  have hlen2 := hlen
  unfold listL at hlen2 ⊢
  rw [← hrl, ← outs_outOf ftL l, ← hrl] at hlen2 ⊢
  rw [List.length_append] at hlen2
  have eg : ∀ args w, (callFunc 29 args).run Tryz.prog w = .ok (.enter 29 args) w := enters_of Tryz.func29 (by kernel_rfl) rfl
  have hform : ∀ (j : Nat) (r : List Value), rows[j]? = some r → ∃ (e0 : ByteArray) (e1 : ByteArray), r = [(.string e0), (.string e1)] := by
    intro j r hr
    obtain ⟨x, hxl, hR⟩ := hx j r hr
    obtain ⟨rfl, _, _⟩ := hR
    exact ⟨_, _, rfl⟩
  have hone : ∀ (W : World) (j : Nat) (r : List Value), rows[j]? = some r → Below w.heap.size w W → w.heap.size ≤ W.heap.size → Calls Tryz.prog 29 (#[.agg r.toArray] ++ #[]) W fun e w' => e = .returned (.string (bs (outOf ftL l j))) ∧ Below w.heap.size w w' ∧ Keeps (fun _ => False) W w' := by
    intro W j r hr hI _
    obtain ⟨x, hxl, hR⟩ := hx j r hr
    have hxm : x ∈ l := List.mem_of_getElem? hxl
    rw [outOf_at hxl]
    obtain ⟨rfl, _, _⟩ := hR
    have hc := ft_any x.params x.results W (hsz x hxm).1 (hsz x hxm).2
    refine (show Calls Tryz.prog 29 #[.agg #[.string x.params, .string x.results]] W _ from hc.mono ?_)
    rintro e w' ⟨rfl, c1⟩
    exact ⟨rfl, hI.trans (c1.mono hI.size), .of_below c1⟩
  refine (enclist_ft la c rows (outOf ftL l) _ #[] eg (fun _ W => Below w.heap.size w W) (fun _ => False) w (fun k hk => hk.elim) (Below.refl _ _) (fun j W W' h1 h2 h3 => h1.trans h3) hform (fun j W hW => hrow2.later hW) hone hlen2).mono ?_
  rintro e w' ⟨rfl, h1, _⟩
  exact ⟨rfl, h1⟩
set_option maxRecDepth 100000 in
set_option maxHeartbeats 1000000 in
theorem plist_mem (v : Value) (l : List MemP) (w0 w : World) (hl : MemsAt w0 v l) (hB : Below w0.heap.size w0 w) (hsz : ∀ p ∈ l, True) (hlen : (listL memL l).length ≤ 140737488355328) :
    Calls Tryz.prog 35 #[v, .func (.func 36) #[] #[]] w fun e w' => e = .returned (.string (bs (listL memL l))) ∧ Below w.heap.size w w' := by
  obtain ⟨la, c, rows, rfl, hrl, hrow, hx⟩ := rows_of hl
  have hrow2 := hrow.later hB
  have hlen2 := hlen
  unfold listL at hlen2 ⊢
  rw [← hrl, ← outs_outOf memL l, ← hrl] at hlen2 ⊢
  rw [List.length_append] at hlen2
  have eg : ∀ args w, (callFunc 36 args).run Tryz.prog w = .ok (.enter 36 args) w := enters_of Tryz.func36 (by kernel_rfl) rfl
  have hform : ∀ (j : Nat) (r : List Value), rows[j]? = some r → ∃ (e0 : Int) (e1 : Int), r = [(.int .i64 e0), (.int .i64 e1)] := by
    intro j r hr
    obtain ⟨x, hxl, hR⟩ := hx j r hr
    obtain rfl := hR
    exact ⟨_, _, rfl⟩
  have hone : ∀ (W : World) (j : Nat) (r : List Value), rows[j]? = some r → Below w.heap.size w W → w.heap.size ≤ W.heap.size → Calls Tryz.prog 36 (#[.agg r.toArray] ++ #[]) W fun e w' => e = .returned (.string (bs (outOf memL l j))) ∧ Below w.heap.size w w' ∧ Keeps (fun _ => False) W w' := by
    intro W j r hr hI _
    obtain ⟨x, hxl, hR⟩ := hx j r hr
    have hxm : x ∈ l := List.mem_of_getElem? hxl
    rw [outOf_at hxl]
    obtain rfl := hR
    have hc := mem_any x.least x.most W
    refine (show Calls Tryz.prog 36 #[.agg #[.int .i64 x.least, .int .i64 x.most]] W _ from hc.mono ?_)
    rintro e w' ⟨rfl, c1⟩
    exact ⟨rfl, hI.trans (c1.mono hI.size), .of_below c1⟩
  refine (enclist_mem la c rows (outOf memL l) _ #[] eg (fun _ W => Below w.heap.size w W) (fun _ => False) w (fun k hk => hk.elim) (Below.refl _ _) (fun j W W' h1 h2 h3 => h1.trans h3) hform (fun j W hW => hrow2.later hW) hone hlen2).mono ?_
  rintro e w' ⟨rfl, h1, _⟩
  exact ⟨rfl, h1⟩
set_option maxRecDepth 100000 in
set_option maxHeartbeats 1000000 in
theorem plist_glob (v : Value) (l : List GlobP) (w0 w : World) (hl : GlobsAt w0 v l) (hB : Below w0.heap.size w0 w) (hsz : ∀ p ∈ l, (Lit.int .i64 p.init).wf = true) (hlen : (listL globL l).length ≤ 140737488355328) :
    Calls Tryz.prog 38 #[v, .func (.func 39) #[] #[]] w fun e w' => e = .returned (.string (bs (listL globL l))) ∧ Below w.heap.size w w' := by
  obtain ⟨la, c, rows, rfl, hrl, hrow, hx⟩ := rows_of hl
  have hrow2 := hrow.later hB
  have hlen2 := hlen
  unfold listL at hlen2 ⊢
  rw [← hrl, ← outs_outOf globL l, ← hrl] at hlen2 ⊢
  rw [List.length_append] at hlen2
  have eg : ∀ args w, (callFunc 39 args).run Tryz.prog w = .ok (.enter 39 args) w := enters_of Tryz.func39 (by kernel_rfl) rfl
  have hform : ∀ (j : Nat) (r : List Value), rows[j]? = some r → ∃ (e0 : Int) (e1 : Bool) (e2 : Int), r = [(.int .i64 e0), (.bool e1), (.int .i64 e2)] := by
    intro j r hr
    obtain ⟨x, hxl, hR⟩ := hx j r hr
    obtain rfl := hR
    exact ⟨_, _, _, rfl⟩
  have hone : ∀ (W : World) (j : Nat) (r : List Value), rows[j]? = some r → Below w.heap.size w W → w.heap.size ≤ W.heap.size → Calls Tryz.prog 39 (#[.agg r.toArray] ++ #[]) W fun e w' => e = .returned (.string (bs (outOf globL l j))) ∧ Below w.heap.size w w' ∧ Keeps (fun _ => False) W w' := by
    intro W j r hr hI _
    obtain ⟨x, hxl, hR⟩ := hx j r hr
    have hxm : x ∈ l := List.mem_of_getElem? hxl
    rw [outOf_at hxl]
    obtain rfl := hR
    have hc := glob_any x.ty x.init x.mut_ W (hsz x hxm)
    refine (show Calls Tryz.prog 39 #[.agg #[.int .i64 x.ty, .bool x.mut_, .int .i64 x.init]] W _ from hc.mono ?_)
    rintro e w' ⟨rfl, c1⟩
    exact ⟨rfl, hI.trans (c1.mono hI.size), .of_below c1⟩
  refine (enclist_glob la c rows (outOf globL l) _ #[] eg (fun _ W => Below w.heap.size w W) (fun _ => False) w (fun k hk => hk.elim) (Below.refl _ _) (fun j W W' h1 h2 h3 => h1.trans h3) hform (fun j W hW => hrow2.later hW) hone hlen2).mono ?_
  rintro e w' ⟨rfl, h1, _⟩
  exact ⟨rfl, h1⟩
set_option maxRecDepth 100000 in
set_option maxHeartbeats 1000000 in
theorem plist_exp (v : Value) (l : List ExpP) (w0 w : World) (hl : ExpsAt w0 v l) (hB : Below w0.heap.size w0 w) (hsz : ∀ p ∈ l, p.name.size ≤ 140737488355328) (hlen : (listL expL l).length ≤ 140737488355328) :
    Calls Tryz.prog 42 #[v, .func (.func 43) #[] #[]] w fun e w' => e = .returned (.string (bs (listL expL l))) ∧ Below w.heap.size w w' := by
  obtain ⟨la, c, rows, rfl, hrl, hrow, hx⟩ := rows_of hl
  have hrow2 := hrow.later hB
  have hlen2 := hlen
  unfold listL at hlen2 ⊢
  rw [← hrl, ← outs_outOf expL l, ← hrl] at hlen2 ⊢
  rw [List.length_append] at hlen2
  have eg : ∀ args w, (callFunc 43 args).run Tryz.prog w = .ok (.enter 43 args) w := enters_of Tryz.func43 (by kernel_rfl) rfl
  have hform : ∀ (j : Nat) (r : List Value), rows[j]? = some r → ∃ (e0 : ByteArray) (e1 : Int) (e2 : Int), r = [(.string e0), (.int .i64 e1), (.int .i64 e2)] := by
    intro j r hr
    obtain ⟨x, hxl, hR⟩ := hx j r hr
    obtain ⟨rfl, _⟩ := hR
    exact ⟨_, _, _, rfl⟩
  have hone : ∀ (W : World) (j : Nat) (r : List Value), rows[j]? = some r → Below w.heap.size w W → w.heap.size ≤ W.heap.size → Calls Tryz.prog 43 (#[.agg r.toArray] ++ #[]) W fun e w' => e = .returned (.string (bs (outOf expL l j))) ∧ Below w.heap.size w w' ∧ Keeps (fun _ => False) W w' := by
    intro W j r hr hI _
    obtain ⟨x, hxl, hR⟩ := hx j r hr
    have hxm : x ∈ l := List.mem_of_getElem? hxl
    rw [outOf_at hxl]
    obtain ⟨rfl, _⟩ := hR
    have hc := exp_any x.name x.kind x.index W (hsz x hxm)
    refine (show Calls Tryz.prog 43 #[.agg #[.string x.name, .int .i64 x.kind, .int .i64 x.index]] W _ from hc.mono ?_)
    rintro e w' ⟨rfl, c1⟩
    exact ⟨rfl, hI.trans (c1.mono hI.size), .of_below c1⟩
  refine (enclist_exp la c rows (outOf expL l) _ #[] eg (fun _ W => Below w.heap.size w W) (fun _ => False) w (fun k hk => hk.elim) (Below.refl _ _) (fun j W W' h1 h2 h3 => h1.trans h3) hform (fun j W hW => hrow2.later hW) hone hlen2).mono ?_
  rintro e w' ⟨rfl, h1, _⟩
  exact ⟨rfl, h1⟩
set_option maxRecDepth 100000 in
set_option maxHeartbeats 1000000 in
theorem plist_data (v : Value) (l : List DataP) (w0 w : World) (hl : DatasAt w0 v l) (hB : Below w0.heap.size w0 w) (hsz : ∀ p ∈ l, (Lit.int .i64 p.offset).wf = true ∧ p.bytes.size ≤ 140737488355328) (hlen : (listL dataL l).length ≤ 140737488355328) :
    Calls Tryz.prog 47 #[v, .func (.func 48) #[] #[]] w fun e w' => e = .returned (.string (bs (listL dataL l))) ∧ Below w.heap.size w w' := by
  obtain ⟨la, c, rows, rfl, hrl, hrow, hx⟩ := rows_of hl
  have hrow2 := hrow.later hB
  have hlen2 := hlen
  unfold listL at hlen2 ⊢
  rw [← hrl, ← outs_outOf dataL l, ← hrl] at hlen2 ⊢
  rw [List.length_append] at hlen2
  have eg : ∀ args w, (callFunc 48 args).run Tryz.prog w = .ok (.enter 48 args) w := enters_of Tryz.func48 (by kernel_rfl) rfl
  have hform : ∀ (j : Nat) (r : List Value), rows[j]? = some r → ∃ (e0 : Int) (e1 : ByteArray), r = [(.int .i64 e0), (.string e1)] := by
    intro j r hr
    obtain ⟨x, hxl, hR⟩ := hx j r hr
    obtain ⟨rfl, _⟩ := hR
    exact ⟨_, _, rfl⟩
  have hone : ∀ (W : World) (j : Nat) (r : List Value), rows[j]? = some r → Below w.heap.size w W → w.heap.size ≤ W.heap.size → Calls Tryz.prog 48 (#[.agg r.toArray] ++ #[]) W fun e w' => e = .returned (.string (bs (outOf dataL l j))) ∧ Below w.heap.size w w' ∧ Keeps (fun _ => False) W w' := by
    intro W j r hr hI _
    obtain ⟨x, hxl, hR⟩ := hx j r hr
    have hxm : x ∈ l := List.mem_of_getElem? hxl
    rw [outOf_at hxl]
    obtain ⟨rfl, _⟩ := hR
    have hc := data_any x.offset x.bytes W (hsz x hxm).1 (hsz x hxm).2
    refine (show Calls Tryz.prog 48 #[.agg #[.int .i64 x.offset, .string x.bytes]] W _ from hc.mono ?_)
    rintro e w' ⟨rfl, c1⟩
    exact ⟨rfl, hI.trans (c1.mono hI.size), .of_below c1⟩
  refine (enclist_data la c rows (outOf dataL l) _ #[] eg (fun _ W => Below w.heap.size w W) (fun _ => False) w (fun k hk => hk.elim) (Below.refl _ _) (fun j W W' h1 h2 h3 => h1.trans h3) hform (fun j W hW => hrow2.later hW) hone hlen2).mono ?_
  rintro e w' ⟨rfl, h1, _⟩
  exact ⟨rfl, h1⟩
set_option maxRecDepth 100000 in
set_option maxHeartbeats 1000000 in
theorem plist_ty (v : Value) (l : List FuncP) (w0 w : World) (hl : FuncsAt w0 v l) (hB : Below w0.heap.size w0 w) (hsz : ∀ p ∈ l, True) (hlen : (listL (fun f => numL f.ty) l).length ≤ 140737488355328) :
    Calls Tryz.prog 31 #[v, .func (.func 32) #[] #[]] w fun e w' => e = .returned (.string (bs (listL (fun f => numL f.ty) l))) ∧ Below w.heap.size w w' := by
  obtain ⟨la, c, rows, rfl, hrl, hrow, hx⟩ := rows_of hl
  have hrow2 := hrow.later hB
  have hlen2 := hlen
  unfold listL at hlen2 ⊢
  rw [← hrl, ← outs_outOf (fun f => numL f.ty) l, ← hrl] at hlen2 ⊢
  rw [List.length_append] at hlen2
  have eg : ∀ args w, (callFunc 32 args).run Tryz.prog w = .ok (.enter 32 args) w := enters_of Tryz.func32 (by kernel_rfl) rfl
  have hform : ∀ (j : Nat) (r : List Value), rows[j]? = some r → ∃ (e0 : Int) (e1 : ByteArray) (e2 : Option Addr) (n2 k2 : Nat), r = [(.int .i64 e0), (.string e1), (.slice e2 n2 k2)] := by
    intro j r hr
    obtain ⟨x, hxl, hR⟩ := hx j r hr
    obtain ⟨cv, rfl, hcv, _, _⟩ := hR; obtain ⟨la2, cp2, rfl, _⟩ := hcv.form
    exact ⟨_, _, _, _, _, rfl⟩
  have hone : ∀ (W : World) (j : Nat) (r : List Value), rows[j]? = some r → Below w.heap.size w W → w.heap.size ≤ W.heap.size → Calls Tryz.prog 32 (#[.agg r.toArray] ++ #[]) W fun e w' => e = .returned (.string (bs (outOf (fun f => numL f.ty) l j))) ∧ Below w.heap.size w w' ∧ Keeps (fun _ => False) W w' := by
    intro W j r hr hI _
    obtain ⟨x, hxl, hR⟩ := hx j r hr
    have hxm : x ∈ l := List.mem_of_getElem? hxl
    rw [outOf_at hxl]
    obtain ⟨cv, rfl, hcv, _, _⟩ := hR; obtain ⟨la2, cp2, rfl, _⟩ := hcv.form
    have hc := ty_any x.ty x.locals la2 x.code.length cp2 W
    refine (show Calls Tryz.prog 32 #[.agg #[.int .i64 x.ty, .string x.locals, .slice la2 x.code.length cp2]] W _ from hc.mono ?_)
    rintro e w' ⟨rfl, c1⟩
    exact ⟨rfl, hI.trans (c1.mono hI.size), .of_below c1⟩
  refine (enclist_func la c rows (outOf (fun f => numL f.ty) l) _ #[] eg (fun _ W => Below w.heap.size w W) (fun _ => False) w (fun k hk => hk.elim) (Below.refl _ _) (fun j W W' h1 h2 h3 => h1.trans h3) hform (fun j W hW => hrow2.later hW) hone hlen2).mono ?_
  rintro e w' ⟨rfl, h1, _⟩
  exact ⟨rfl, h1⟩
def cntC (l : List FuncP) (j : Nat) : Nat := ((l.take j).map fun f => f.code.length).sum
theorem cntC_succ {l : List FuncP} {j : Nat} {x : FuncP} (h : l[j]? = some x) : cntC l (j + 1) = cntC l j + x.code.length := by
  unfold cntC
  rw [List.take_add_one, h, List.map_append, List.sum_append]
  simp
theorem cntC_le (l : List FuncP) (h : ∀ x ∈ l, x.code.length ≤ 3000000000000) : ∀ j, j ≤ l.length → cntC l j ≤ j * 3000000000000
  | 0, _ => by unfold cntC; simp
  | j + 1, hj => by
    have hx := List.getElem?_eq_getElem (show j < l.length by omega)
    rw [cntC_succ hx]
    have h1 := cntC_le l h j (by omega)
    have h2 := h _ (List.getElem_mem (show j < l.length by omega))
    omega
theorem flat_mem {α : Type} (f : α → List UInt8) {l : List α} {x : α} (h : x ∈ l) : (f x).length ≤ (l.flatMap f).length := by
  induction l with
  | nil => cases h
  | cons y l ih =>
    rw [List.flatMap_cons, List.length_append]
    rcases List.mem_cons.1 h with rfl | h
    · omega
    · have := ih h; omega
set_option maxRecDepth 100000 in
set_option maxHeartbeats 1000000 in
theorem list_code (v : Value) (l : List FuncP) (vb mb K : Nat) (w0 w : World) (hE : OpEnv w0) (hl : FuncsAt w0 v l) (hB : Below w0.heap.size w0 w) (hmb : w0.heap.size ≤ mb) (hvm : vb ≠ mb) (hvb : w.cell? ⟨vb, 0, none⟩ = some (.map (some mb))) (hI : InfosAt w mb K) (hK : K + cntC l l.length < 1000000000000000000)
    (hok : ∀ f ∈ l, ∀ x ∈ f.code, InsOk x) (hloc : ∀ f ∈ l, f.locals.size ≤ 1000000000000) (hzs : ∀ f ∈ l, ∀ x ∈ f.code, x.labels.length ≤ 1000000000000) (hlen : (listL codeL l).length ≤ 140737488355000) :
    Calls Tryz.prog 31 #[v, .func (.func 19) #[] #[.pointer (some ⟨vb, 0, none⟩)]] w fun e w' => e = .returned (.string (bs (listL codeL l))) ∧ InfosAt w' mb (K + cntC l l.length) ∧ Keeps (fun j => j = mb) w w' := by
  obtain ⟨la, c, rows, rfl, hrl, hrow, hx⟩ := rows_of hl
  have hlen2 := hlen
  unfold listL at hlen2 ⊢
  rw [← hrl, ← outs_outOf codeL l, ← hrl] at hlen2 ⊢
  rw [List.length_append] at hlen2
  have hmw := infos_lt hI
  have eg : ∀ args w, (callFunc 19 args).run Tryz.prog w = .ok (.enter 19 args) w := enters_of Tryz.func19 (by kernel_rfl) rfl
  have hform : ∀ (j : Nat) (r : List Value), rows[j]? = some r → ∃ (e0 : Int) (e1 : ByteArray) (e2 : Option Addr) (n2 k2 : Nat), r = [(.int .i64 e0), (.string e1), (.slice e2 n2 k2)] := by
    intro j r hr
    obtain ⟨x, hxl, hR⟩ := hx j r hr
    obtain ⟨cv, rfl, hcv, _, _⟩ := hR
    obtain ⟨la2, cp2, rfl, _⟩ := hcv.form
    exact ⟨_, _, _, _, _, rfl⟩
  have below : ∀ W, Keeps (fun j => j = mb) w W → Below w0.heap.size w0 W := fun W h => hB.trans ⟨h.os, h.tape, h.output, h.size, fun j hj => h.block j (by have := hB.size; omega) (fun e => by omega)⟩
  have hone : ∀ (W : World) (j : Nat) (r : List Value), rows[j]? = some r → (InfosAt W mb (K + cntC l j) ∧ Keeps (fun j => j = mb) w W) → w.heap.size ≤ W.heap.size → Calls Tryz.prog 19 (#[.agg r.toArray] ++ #[.pointer (some ⟨vb, 0, none⟩)]) W fun e w' => e = .returned (.string (bs (outOf codeL l j))) ∧ (InfosAt w' mb (K + cntC l (j + 1)) ∧ Keeps (fun j => j = mb) w w') ∧ Keeps (fun j => j = mb) W w' := by
    intro W j r hr hW _
    obtain ⟨x, hxl, hR⟩ := hx j r hr
    have hxm : x ∈ l := List.mem_of_getElem? hxl
    obtain ⟨cv, rfl, hcv, _, _⟩ := hR
    obtain ⟨la2, cp2, rfl, _⟩ := hcv.form
    have hj : j < l.length := (List.getElem?_eq_some_iff.1 hxl).1
    have hcx : cntC l j + x.code.length ≤ cntC l l.length := by
      rw [← cntC_succ hxl]
      unfold cntC
      rw [List.take_length]
      conv => rhs; rw [← List.take_append_drop (j + 1) l]
      rw [List.map_append, List.sum_append]
      omega
    have hcl : (codeL x).length ≤ (l.flatMap codeL).length := flat_mem codeL hxm
    have hcl2 : (localsL x.locals.data.toList).length + (x.code.flatMap insL).length ≤ (codeL x).length := by
      unfold codeL textL
      rw [List.length_append, List.length_append]
      omega
    have hcl3 : (l.flatMap codeL).length ≤ 140737488355000 := by
      unfold listL at hlen
      rw [List.length_append] at hlen
      omega
    rw [outOf_at hxl, cntC_succ hxl]
    have hc := code_any x.ty x.locals la2 cp2 x.code vb mb (K + cntC l j) w0 W hE hcv (hok x hxm) (below W hW.2) hmb hvm (hW.2.cell hvb hvm) hW.1 (by omega) (hloc x hxm) (by omega) (hzs x hxm)
    refine (show Calls Tryz.prog 19 #[.agg #[.int .i64 x.ty, .string x.locals, .slice la2 x.code.length cp2], .pointer (some ⟨vb, 0, none⟩)] W _ from hc.mono ?_)
    rintro e w' ⟨rfl, h1, h2⟩
    exact ⟨rfl, ⟨by rw [← Nat.add_assoc]; exact h1, keeps_then hW.2 h2⟩, h2⟩
  have hrow3 : ∀ j W, (InfosAt W mb (K + cntC l j) ∧ Keeps (fun j => j = mb) w W) → RowAt W 3 (.slice la rows.length c) rows := fun j W hW => hrow.later (below W hW.2)
  have h := enclist_func la c rows (outOf codeL l) _ #[.pointer (some ⟨vb, 0, none⟩)] eg (fun j W => InfosAt W mb (K + cntC l j) ∧ Keeps (fun j => j = mb) w W) (fun j => j = mb) w (fun k hk => hk ▸ hmw) ⟨by rw [show cntC l 0 = 0 from rfl]; exact hI, Keeps.refl _ _⟩ (fun j W W' h1 h2 h3 => ⟨h1.1.of (h3.block mb hmw), keeps_base h1.2 h3⟩) hform hrow3 hone (by omega)
  refine h.mono ?_
  rintro e w' ⟨rfl, h1, h2⟩
  rw [hrl] at h1 ⊢
  exact ⟨rfl, h1.1, h2⟩
/-- Module's variables -/
structure MI (w0 : World) (t f me g e : Value) (st : Int) (d : Value) (vb mb cv wb K : Nat) (acc : List UInt8) (W : World) : Prop where
  bel : Below w0.heap.size w0 W
  box : W.heap[w0.heap.size]? = some (.cells #[t, f, me, g, e, .int .i64 st, d] 29 (0, 0))
  vbx : W.heap[vb]? = some (.cells #[.map (some mb)] 74 (0, 0))
  cvx : W.heap[cv]? = some (.cells #[.func (.func 19) #[] #[.pointer (some ⟨vb, 0, none⟩)]] 89 (0, 0))
  inf : InfosAt W mb K
  bld : Bld 92 wb wb acc W
  ord : w0.heap.size < mb ∧ mb < vb ∧ vb < cv ∧ cv < wb
section
variable {w0 : World} {t f me g e : Value} {st : Int} {d : Value} {vb mb cv wb K : Nat} {acc : List UInt8} {W W' : World}
theorem MI.wlt (h : MI w0 t f me g e st d vb mb cv wb K acc W) : wb < W.heap.size := Bld.lt h.bld
theorem MI.later (h : MI w0 t f me g e st d vb mb cv wb K acc W) (b : Below W.heap.size W W') : MI w0 t f me g e st d vb mb cv wb K acc W' := by
  have hw := h.wlt
  obtain ⟨o1, o2, o3, o4⟩ := h.ord
  exact ⟨h.bel.trans (b.mono h.bel.size), (b.block _ (by omega)).trans h.box, (b.block _ (by omega)).trans h.vbx, (b.block _ (by omega)).trans h.cvx, h.inf.later b, Bld.later h.bld b, h.ord⟩
theorem MI.wrote {acc' : List UInt8} (h : MI w0 t f me g e st d vb mb cv wb K acc W) (b : Below wb W W') (hb : Bld 92 wb wb acc' W') : MI w0 t f me g e st d vb mb cv wb K acc' W' := by
  obtain ⟨o1, o2, o3, o4⟩ := h.ord
  exact ⟨h.bel.trans (b.mono (by omega)), (b.block _ (by omega)).trans h.box, (b.block _ (by omega)).trans h.vbx, (b.block _ (by omega)).trans h.cvx, h.inf.of (b.block _ (by omega)), hb, h.ord⟩
theorem MI.infos {K' : Nat} (h : MI w0 t f me g e st d vb mb cv wb K acc W) (b : Keeps (fun j => j = mb) W W') (hI : InfosAt W' mb K') : MI w0 t f me g e st d vb mb cv wb K' acc W' := by
  have hw := h.wlt
  obtain ⟨o1, o2, o3, o4⟩ := h.ord
  exact ⟨h.bel.trans ⟨b.os, b.tape, b.output, b.size, fun j hj => b.block j (by omega) (fun e => by omega)⟩, (b.block _ (by omega) (by omega)).trans h.box, (b.block _ (by omega) (by omega)).trans h.vbx, (b.block _ (by omega) (by omega)).trans h.cvx, hI, Bld.keep h.bld (fun k hk hkl => b.block k hkl (by omega)), h.ord⟩
theorem MI.mono {K' : Nat} (h : MI w0 t f me g e st d vb mb cv wb K acc W) (hk : K ≤ K') : MI w0 t f me g e st d vb mb cv wb K' acc W := ⟨h.bel, h.box, h.vbx, h.cvx, h.inf.mono hk, h.bld, h.ord⟩
theorem MI.drew (h : MI w0 t f me g e st d vb mb cv wb K acc W) : MI w0 t f me g e st d vb mb cv wb K acc W.drew := ⟨h.bel.drew, h.box, h.vbx, h.cvx, h.inf.of rfl, h.bld, h.ord⟩
end
set_option maxRecDepth 100000 in
set_option maxHeartbeats 4000000 in
theorem section_no (w0 : World) (t f me g e : Value) (st : Int) (d : Value) (vb mb cv wb K : Nat) (acc : List UInt8) (id : UInt8) (fv : Value) (w : World) (h : MI w0 t f me g e st d vb mb cv wb K acc w) :
    Calls Tryz.prog 26 #[.pointer (some ⟨wb, 0, none⟩), .int .u8 (id.toNat : Int), .int .i64 0, fv] w fun en w' => en = .returned (.tuple #[]) ∧ MI w0 t f me g e st d vb mb cv wb K acc w' := by
  go_enter Tryz.func26, Tryz.ntmps26
  go_wp2_with fail
  go_end0
  exact ⟨rfl, h⟩
set_option maxRecDepth 100000 in
set_option maxHeartbeats 4000000 in
theorem section_yes (w0 : World) (t f me g e : Value) (st : Int) (d : Value) (vb mb cv wb K K' : Nat) (acc : List UInt8) (id : UInt8) (many : Nat) (l : List UInt8) (g' : Nat) (lb : Array Value) (eg : ∀ args w, (callFunc g' args).run Tryz.prog w = .ok (.enter g' args) w) (w : World) (h : MI w0 t f me g e st d vb mb cv wb K acc w)
    (hs : ∀ W a, MI w0 t f me g e st d vb mb cv wb K a W → Calls Tryz.prog g' lb W fun en w' => en = .returned (.string (bs l)) ∧ MI w0 t f me g e st d vb mb cv wb K' a w') (hm : 0 < many) (hlen : acc.length + l.length ≤ 140737488355300) :
    Calls Tryz.prog 26 #[.pointer (some ⟨wb, 0, none⟩), .int .u8 (id.toNat : Int), .int .i64 (many : Int), .func (.func g') #[] lb] w fun en w' => en = .returned (.tuple #[]) ∧ MI w0 t f me g e st d vb mb cv wb K' (acc ++ id :: textL l) w' := by
  have H := Lib.hid h
  have HS := Lib.hid hs
  have HL := Lib.hid hlen
  have hmz : (0 : Int) < (many : Int) := by omega
  obtain ⟨X, hX⟩ : ∃ X, bs (textL l) = X := ⟨_, rfl⟩
  have HX := Lib.hid hX
  have HXs := Lib.hid (show X.size ≤ 10 + l.length by rw [← hX, bs_size]; unfold textL; rw [List.length_append]; have := num_len l.length; omega)
  have hwl := Nat.le_of_lt h.wlt
  have HT := Lib.hid (fun (W : World) => (show Calls Tryz.prog 23 #[.string (bs l)] W fun e w' => e = .returned (.string X) ∧ Below W.heap.size W w' by
    have h1 := text_any (bs l) W (by rw [bs_size]; omega)
    rw [show strL (bs l) = textL l by unfold strL; rw [bs_data], hX] at h1
    exact h1))
  obtain ⟨S, hS⟩ : ∃ S, bs l = S := ⟨_, rfl⟩
  rw [hS] at HS HT
  clear h hs hlen hX hS
  go_enter Tryz.func26, Tryz.ntmps26
  go_wp2_with fail
  refine (writeByte_any bt_writer wb wb acc id w H.out.bld (by have := HL.out; omega) hwl).mono ?_
  rintro en w1 ⟨rfl, b1, c1, _⟩
  have H1 := Lib.hid (H.out.wrote c1 b1)
  clear b1 c1
  go_upto_region 2 with fail
  refine wp_region_held_drew (S := fun _ => True) (by kernel_rfl) trivial (fun hHeld => ?_)
  obtain ⟨V0, hV0⟩ : ∃ V, w1.drew = V := ⟨_, rfl⟩
  have HV0 := Lib.hid (show MI w0 t f me g e st d vb mb cv wb K (acc ++ [id]) V0 by rw [← hV0]; exact H1.out.drew)
  rw [hV0]
  clear hV0
  refine take_yes (i := 0) (d := (some 15)) (v := ?_) rfl (by kernel_rfl) (by kernel_rfl) (by kernel_rfl) rfl (fun _ _ _ h => h) (by rfl) (by assumption) ?_ ?_
  rotate_left
  · (intro w hSw; (try dsimp only at hSw); go_simp; try with_reducible rfl)
  try simp only [Act.put, List.setIfInBounds_toArray, List.set_cons_zero, List.set_cons_succ]
  refine take_yes (i := 1) (d := (some 16)) (v := ?_) rfl (by kernel_rfl) (by kernel_rfl) (by kernel_rfl) rfl (fun _ _ _ h => h) (by rfl) (by assumption) ?_ ?_
  rotate_left
  · (intro w hSw; (try dsimp only at hSw); go_simp; try with_reducible rfl)
  try simp only [Act.put, List.setIfInBounds_toArray, List.set_cons_zero, List.set_cons_succ]
  refine take_yes (i := 2) (d := (some 17)) (v := ?_) rfl (by kernel_rfl) (by kernel_rfl) (by kernel_rfl) rfl (fun _ _ _ h => h) (by rfl) (by assumption) ?_ ?_
  rotate_left
  · (intro w hSw; (try dsimp only at hSw); go_simp; try with_reducible rfl)
  try simp only [Act.put, List.setIfInBounds_toArray, List.set_cons_zero, List.set_cons_succ]
  refine take_yes (i := 3) (d := (some 18)) (v := ?_) rfl (by kernel_rfl) (by kernel_rfl) (by kernel_rfl) rfl (fun _ _ _ h => h) (by rfl) (by assumption) ?_ ?_
  rotate_left
  · (intro w hSw; (try dsimp only at hSw); go_simp; try with_reducible rfl)
  try simp only [Act.put, List.setIfInBounds_toArray, List.set_cons_zero, List.set_cons_succ]
  refine wpAnyH_ready (rs := [4]) (by kernel_rfl) (by simp) ?_
  refine (AllReadyH.cons (o := _) rfl (fun K hK => ?_) AllReadyH.nil)
  go_simp
  go_at_fn g'
  refine (HS.out _ _ HV0.out).mono ?_
  rintro en V1 ⟨rfl, m1⟩
  have HV1 := Lib.hid m1
  clear m1
  go_wp2_with fail
  refine hK.out _ _ trivial (fun hHeld => ?_)
  clear hK K
  try simp only [Act.put, List.setIfInBounds_toArray, List.set_cons_zero, List.set_cons_succ]
  refine wpAnyH_ready (rs := [5]) (by kernel_rfl) (by simp) ?_
  refine (AllReadyH.cons (o := _) rfl (fun K hK => ?_) AllReadyH.nil)
  go_simp
  go_at_call 23
  refine (HT.out V1).mono ?_
  rintro en V2 ⟨rfl, c9⟩
  have HV2 := Lib.hid (HV1.out.later c9)
  clear c9
  go_wp2_with fail
  refine hK.out _ _ trivial (fun hHeld => ?_)
  clear hK K
  try simp only [Act.put, List.setIfInBounds_toArray, List.set_cons_zero, List.set_cons_succ]
  refine wpAnyH_ready (rs := [6]) (by kernel_rfl) (by simp) ?_
  refine (AllReadyH.cons (o := _) rfl (fun K hK => ?_) AllReadyH.nil)
  go_simp
  go_at_call 21
  refine (write_any bt_writer wb wb _ X V2 HV2.out.bld (by have h1 := HXs.out; have h2 := HL.out; rw [List.length_append]; simp; omega) (Nat.le_of_lt HV2.out.wlt)).mono ?_
  rintro en V3 ⟨rfl, b9, c9, _⟩
  have HV3 := Lib.hid (HV2.out.wrote c9 b9)
  clear b9 c9
  go_wp2_with fail
  refine hK.out _ _ trivial (fun hHeld => ?_)
  clear hK K
  try simp only [Act.put, List.setIfInBounds_toArray, List.set_cons_zero, List.set_cons_succ]
  refine wpAnyH_done (by kernel_rfl) ?_ _
  go_wp2_with fail
  go_end0
  refine ⟨rfl, ?_⟩
  have h9 := HV3.out
  rw [← HX.out, bs_data, List.append_assoc] at h9
  exact h9
theorem section_any (w0 : World) (t f me g e : Value) (st : Int) (d : Value) (vb mb cv wb K K' : Nat) (acc : List UInt8) (id : UInt8) (many : Nat) (l : List UInt8) (g' : Nat) (lb : Array Value) (eg : ∀ args w, (callFunc g' args).run Tryz.prog w = .ok (.enter g' args) w) (w : World) (h : MI w0 t f me g e st d vb mb cv wb K acc w) (hk : K ≤ K')
    (hs : 0 < many → ∀ W a, MI w0 t f me g e st d vb mb cv wb K a W → Calls Tryz.prog g' lb W fun en w' => en = .returned (.string (bs l)) ∧ MI w0 t f me g e st d vb mb cv wb K' a w') (hlen : 0 < many → acc.length + l.length ≤ 140737488355300) :
    Calls Tryz.prog 26 #[.pointer (some ⟨wb, 0, none⟩), .int .u8 (id.toNat : Int), .int .i64 (many : Int), .func (.func g') #[] lb] w fun en w' => en = .returned (.tuple #[]) ∧ MI w0 t f me g e st d vb mb cv wb K' (acc ++ sectL id many l) w' := by
  by_cases hm : many = 0
  · subst hm
    refine (section_no w0 t f me g e st d vb mb cv wb K acc id _ w h).mono ?_
    rintro en w' ⟨rfl, h1⟩
    unfold sectL
    rw [if_pos rfl, List.append_nil]
    exact ⟨rfl, h1.mono hk⟩
  · have hm' : 0 < many := by omega
    refine (section_yes w0 t f me g e st d vb mb cv wb K K' acc id many l g' lb eg w h (hs hm') hm' (hlen hm')).mono ?_
    rintro en w' ⟨rfl, h1⟩
    unfold sectL
    rw [if_neg hm]
    exact ⟨rfl, h1⟩
end Go.Proofs.YtofepnojhghnnaaGreatDoor.Enc

/- EncModB: What package enc's Module answers: the closures that write a section, Module itself. No condition beyond what each theorem names. -/
namespace Go.Proofs.YtofepnojhghnnaaGreatDoor.Enc
open Go.RowKit Go.Maps Go.Proofs.YtofepnojhghnnaaGreatDoor.Op Go.Proofs.YtofepnojhghnnaaGreatDoor.Mod Go.Proofs.YtofepnojhghnnaaGreatDoor.Leb Go.Proofs.YtofepnojhghnnaaGreatDoor.Bytes
set_option linter.unusedVariables false
theorem sect_len {id : UInt8} {many : Nat} {l : List UInt8} (h : 0 < many) : l.length + 2 ≤ (sectL id many l).length := by
  unfold sectL textL
  rw [if_neg (by omega), List.length_cons, List.length_append]
  have := num_pos (l.length : Nat)
  omega
theorem modL_eq (m : ModP) : modL m = magicL ++ sectL 1 m.types.length (listL ftL m.types) ++ sectL 3 m.funcs.length (listL (fun f => numL f.ty) m.funcs) ++ sectL 5 m.memory.length (listL memL m.memory) ++ sectL 6 m.globals.length (listL globL m.globals) ++ sectL 7 m.exports.length (listL expL m.exports) ++ sectL 8 (if m.start = -1 then 0 else 1) (numL m.start) ++ sectL 10 m.funcs.length (listL codeL m.funcs) ++ sectL 11 m.data.length (listL dataL m.data) := by
  unfold modL sects
  simp only [List.flatten_cons, List.flatten_nil, List.append_nil, List.append_assoc]
/-- what is asked of a module that is written -/
structure WOk (m : ModP) : Prop where
  types : ∀ p ∈ m.types, p.params.size ≤ 140737488355328 ∧ p.results.size ≤ 140737488355328
  glob : ∀ p ∈ m.globals, (Lit.int .i64 p.init).wf = true
  exp : ∀ p ∈ m.exports, p.name.size ≤ 140737488355328
  data : ∀ p ∈ m.data, (Lit.int .i64 p.offset).wf = true ∧ p.bytes.size ≤ 140737488355328
  ins : ∀ f ∈ m.funcs, ∀ x ∈ f.code, InsOk x
  loc : ∀ f ∈ m.funcs, f.locals.size ≤ 1000000000000
  lab : ∀ f ∈ m.funcs, ∀ x ∈ f.code, x.labels.length ≤ 1000000000000
  cnt : cntC m.funcs m.funcs.length < 1000000000000000000
theorem rightI_len {i : Info} {op A B : Int} {zs : List Int} (h : rightI i op A B zs = true) : zs.length ≤ 4096 := by
  unfold rightI at h
  split at h
  · cases h
  split at h
  · cases h
  split at h
  · cases h
  · omega
theorem rightIns_len {x : InsL} (h : rightIns x = true) : x.labels.length ≤ 4096 := by
  unfold rightIns rightB at h
  split at h
  · cases h
  · exact rightI_len h
theorem allB_all {α : Type} {l : List α} {q : α → Bool} (h : allB l q = true) : l.length ≤ 4096 ∧ ∀ x ∈ l, q x = true := by
  unfold allB at h
  rw [Bool.and_eq_true, decide_eq_true_iff, List.all_eq_true] at h
  exact h
theorem wok_of {m : ModP} (h : ModOk m) (hr : rightM m = true) : WOk m := by
  unfold rightM at hr
  simp only [Bool.and_eq_true] at hr
  obtain ⟨_, h1, h2, h3, h4, h5, h6⟩ := hr
  have hf := allB_all h2
  have hfr : ∀ f ∈ m.funcs, f.locals.size ≤ 4096 ∧ ∀ x ∈ f.code, rightIns x = true := fun f hfm => by
    have := hf.2 f hfm
    unfold rightFunc at this
    simp only [Bool.and_eq_true] at this
    obtain ⟨_, a, _, b⟩ := this
    unfold typesB at a
    rw [Bool.and_eq_true, decide_eq_true_iff] at a
    exact ⟨by omega, fun x hx => List.all_eq_true.1 b x hx⟩
  refine ⟨fun p hp => ?_, fun p hp => (h.glob p hp).2, fun p hp => ?_, fun p hp => ⟨(h.data p hp).1, ?_⟩, fun f hfm => (h.funcs f hfm).code, fun f hfm => ?_, fun f hfm x hx => ?_, ?_⟩
  · have := h.typesS p hp; omega
  · have := (h.exp p hp).2.2; omega
  · have := (h.data p hp).2; omega
  · have := (hfr f hfm).1; omega
  · have := rightIns_len ((hfr f hfm).2 x hx); omega
  · have := cntC_le m.funcs (fun x hx => by have := (h.funcs x hx).len; omega) m.funcs.length (Nat.le_refl _)
    have h9 := hf.1
    omega
theorem eg2 : ∀ args w, (callFunc 27 args).run Tryz.prog w = .ok (.enter 27 args) w := enters_of Tryz.func27 (by kernel_rfl) rfl
theorem eg3 : ∀ args w, (callFunc 30 args).run Tryz.prog w = .ok (.enter 30 args) w := enters_of Tryz.func30 (by kernel_rfl) rfl
theorem eg4 : ∀ args w, (callFunc 34 args).run Tryz.prog w = .ok (.enter 34 args) w := enters_of Tryz.func34 (by kernel_rfl) rfl
theorem eg5 : ∀ args w, (callFunc 37 args).run Tryz.prog w = .ok (.enter 37 args) w := enters_of Tryz.func37 (by kernel_rfl) rfl
theorem eg6 : ∀ args w, (callFunc 41 args).run Tryz.prog w = .ok (.enter 41 args) w := enters_of Tryz.func41 (by kernel_rfl) rfl
theorem eg7 : ∀ args w, (callFunc 44 args).run Tryz.prog w = .ok (.enter 44 args) w := enters_of Tryz.func44 (by kernel_rfl) rfl
theorem eg8 : ∀ args w, (callFunc 45 args).run Tryz.prog w = .ok (.enter 45 args) w := enters_of Tryz.func45 (by kernel_rfl) rfl
theorem eg9 : ∀ args w, (callFunc 46 args).run Tryz.prog w = .ok (.enter 46 args) w := enters_of Tryz.func46 (by kernel_rfl) rfl
set_option maxRecDepth 100000 in
theorem m2_any (m : ModP) (w0 : World) (t f me g e : Value) (st : Int) (d : Value) (vb mb cv wb K : Nat) (a : List UInt8) (W : World) (h : MI w0 t f me g e st d vb mb cv wb K a W) (hv : TypesAt w0 t m.types) (hO : WOk m) (hlen : (listL ftL m.types).length ≤ 140737488355328) :
    Calls Tryz.prog 27 #[.pointer (some ⟨w0.heap.size, 0, none⟩)] W fun en w' => en = .returned (.string (bs (listL ftL m.types))) ∧ MI w0 t f me g e st d vb mb cv wb K a w' := by
  have q := cell_of_row W _ 0 _ _ _ h.box
  replace q : W.cell? ⟨w0.heap.size, 0, none⟩ = some t := q
  have hcall := plist_ft t m.types w0 W hv h.bel hO.types hlen
  have H := Lib.hid h
  obtain ⟨S, hS⟩ : ∃ S, bs (listL ftL m.types) = S := ⟨_, rfl⟩
  rw [hS] at hcall ⊢
  clear h hS hlen
  obtain ⟨la, cp, rfl, _⟩ := hv.form
  go_enter Tryz.func27, Tryz.ntmps27
  go_wp2_with fail
  refine hcall.mono ?_
  rintro en w' ⟨rfl, c⟩
  have H2 := Lib.hid (H.out.later c)
  clear c
  go_wp2_with fail
  go_ret
  exact ⟨rfl, H2.out⟩
set_option maxRecDepth 100000 in
theorem m3_any (m : ModP) (w0 : World) (t f me g e : Value) (st : Int) (d : Value) (vb mb cv wb K : Nat) (a : List UInt8) (W : World) (h : MI w0 t f me g e st d vb mb cv wb K a W) (hv : FuncsAt w0 f m.funcs) (hO : WOk m) (hlen : (listL (fun f => numL f.ty) m.funcs).length ≤ 140737488355328) :
    Calls Tryz.prog 30 #[.pointer (some ⟨w0.heap.size, 0, none⟩)] W fun en w' => en = .returned (.string (bs (listL (fun f => numL f.ty) m.funcs))) ∧ MI w0 t f me g e st d vb mb cv wb K a w' := by
  have q := cell_of_row W _ 1 _ _ _ h.box
  replace q : W.cell? ⟨w0.heap.size, 1, none⟩ = some f := q
  have hcall := plist_ty f m.funcs w0 W hv h.bel (fun _ _ => trivial) hlen
  have H := Lib.hid h
  obtain ⟨S, hS⟩ : ∃ S, bs (listL (fun f => numL f.ty) m.funcs) = S := ⟨_, rfl⟩
  rw [hS] at hcall ⊢
  clear h hS hlen
  obtain ⟨la, cp, rfl, _⟩ := hv.form
  go_enter Tryz.func30, Tryz.ntmps30
  go_wp2_with fail
  refine hcall.mono ?_
  rintro en w' ⟨rfl, c⟩
  have H2 := Lib.hid (H.out.later c)
  clear c
  go_wp2_with fail
  go_ret
  exact ⟨rfl, H2.out⟩
set_option maxRecDepth 100000 in
theorem m4_any (m : ModP) (w0 : World) (t f me g e : Value) (st : Int) (d : Value) (vb mb cv wb K : Nat) (a : List UInt8) (W : World) (h : MI w0 t f me g e st d vb mb cv wb K a W) (hv : MemsAt w0 me m.memory) (hO : WOk m) (hlen : (listL memL m.memory).length ≤ 140737488355328) :
    Calls Tryz.prog 34 #[.pointer (some ⟨w0.heap.size, 0, none⟩)] W fun en w' => en = .returned (.string (bs (listL memL m.memory))) ∧ MI w0 t f me g e st d vb mb cv wb K a w' := by
  have q := cell_of_row W _ 2 _ _ _ h.box
  replace q : W.cell? ⟨w0.heap.size, 2, none⟩ = some me := q
  have hcall := plist_mem me m.memory w0 W hv h.bel (fun _ _ => trivial) hlen
  have H := Lib.hid h
  obtain ⟨S, hS⟩ : ∃ S, bs (listL memL m.memory) = S := ⟨_, rfl⟩
  rw [hS] at hcall ⊢
  clear h hS hlen
  obtain ⟨la, cp, rfl, _⟩ := hv.form
  go_enter Tryz.func34, Tryz.ntmps34
  go_wp2_with fail
  refine hcall.mono ?_
  rintro en w' ⟨rfl, c⟩
  have H2 := Lib.hid (H.out.later c)
  clear c
  go_wp2_with fail
  go_ret
  exact ⟨rfl, H2.out⟩
set_option maxRecDepth 100000 in
theorem m5_any (m : ModP) (w0 : World) (t f me g e : Value) (st : Int) (d : Value) (vb mb cv wb K : Nat) (a : List UInt8) (W : World) (h : MI w0 t f me g e st d vb mb cv wb K a W) (hv : GlobsAt w0 g m.globals) (hO : WOk m) (hlen : (listL globL m.globals).length ≤ 140737488355328) :
    Calls Tryz.prog 37 #[.pointer (some ⟨w0.heap.size, 0, none⟩)] W fun en w' => en = .returned (.string (bs (listL globL m.globals))) ∧ MI w0 t f me g e st d vb mb cv wb K a w' := by
  have q := cell_of_row W _ 3 _ _ _ h.box
  replace q : W.cell? ⟨w0.heap.size, 3, none⟩ = some g := q
  have hcall := plist_glob g m.globals w0 W hv h.bel hO.glob hlen
  have H := Lib.hid h
  obtain ⟨S, hS⟩ : ∃ S, bs (listL globL m.globals) = S := ⟨_, rfl⟩
  rw [hS] at hcall ⊢
  clear h hS hlen
  obtain ⟨la, cp, rfl, _⟩ := hv.form
  go_enter Tryz.func37, Tryz.ntmps37
  go_wp2_with fail
  refine hcall.mono ?_
  rintro en w' ⟨rfl, c⟩
  have H2 := Lib.hid (H.out.later c)
  clear c
  go_wp2_with fail
  go_ret
  exact ⟨rfl, H2.out⟩
set_option maxRecDepth 100000 in
theorem m6_any (m : ModP) (w0 : World) (t f me g e : Value) (st : Int) (d : Value) (vb mb cv wb K : Nat) (a : List UInt8) (W : World) (h : MI w0 t f me g e st d vb mb cv wb K a W) (hv : ExpsAt w0 e m.exports) (hO : WOk m) (hlen : (listL expL m.exports).length ≤ 140737488355328) :
    Calls Tryz.prog 41 #[.pointer (some ⟨w0.heap.size, 0, none⟩)] W fun en w' => en = .returned (.string (bs (listL expL m.exports))) ∧ MI w0 t f me g e st d vb mb cv wb K a w' := by
  have q := cell_of_row W _ 4 _ _ _ h.box
  replace q : W.cell? ⟨w0.heap.size, 4, none⟩ = some e := q
  have hcall := plist_exp e m.exports w0 W hv h.bel hO.exp hlen
  have H := Lib.hid h
  obtain ⟨S, hS⟩ : ∃ S, bs (listL expL m.exports) = S := ⟨_, rfl⟩
  rw [hS] at hcall ⊢
  clear h hS hlen
  obtain ⟨la, cp, rfl, _⟩ := hv.form
  go_enter Tryz.func41, Tryz.ntmps41
  go_wp2_with fail
  refine hcall.mono ?_
  rintro en w' ⟨rfl, c⟩
  have H2 := Lib.hid (H.out.later c)
  clear c
  go_wp2_with fail
  go_ret
  exact ⟨rfl, H2.out⟩
set_option maxRecDepth 100000 in
theorem m9_any (m : ModP) (w0 : World) (t f me g e : Value) (st : Int) (d : Value) (vb mb cv wb K : Nat) (a : List UInt8) (W : World) (h : MI w0 t f me g e st d vb mb cv wb K a W) (hv : DatasAt w0 d m.data) (hO : WOk m) (hlen : (listL dataL m.data).length ≤ 140737488355328) :
    Calls Tryz.prog 46 #[.pointer (some ⟨w0.heap.size, 0, none⟩)] W fun en w' => en = .returned (.string (bs (listL dataL m.data))) ∧ MI w0 t f me g e st d vb mb cv wb K a w' := by
  have q := cell_of_row W _ 6 _ _ _ h.box
  replace q : W.cell? ⟨w0.heap.size, 6, none⟩ = some d := q
  have hcall := plist_data d m.data w0 W hv h.bel hO.data hlen
  have H := Lib.hid h
  obtain ⟨S, hS⟩ : ∃ S, bs (listL dataL m.data) = S := ⟨_, rfl⟩
  rw [hS] at hcall ⊢
  clear h hS hlen
  obtain ⟨la, cp, rfl, _⟩ := hv.form
  go_enter Tryz.func46, Tryz.ntmps46
  go_wp2_with fail
  refine hcall.mono ?_
  rintro en w' ⟨rfl, c⟩
  have H2 := Lib.hid (H.out.later c)
  clear c
  go_wp2_with fail
  go_ret
  exact ⟨rfl, H2.out⟩
set_option maxRecDepth 100000 in
theorem m7_any (w0 : World) (t f me g e : Value) (st : Int) (d : Value) (vb mb cv wb K : Nat) (a : List UInt8) (W : World) (h : MI w0 t f me g e st d vb mb cv wb K a W) :
    Calls Tryz.prog 44 #[.pointer (some ⟨w0.heap.size, 0, none⟩)] W fun en w' => en = .returned (.string (bs (numL st))) ∧ MI w0 t f me g e st d vb mb cv wb K a w' := by
  have q := cell_of_row W _ 5 _ _ _ h.box
  replace q : W.cell? ⟨w0.heap.size, 5, none⟩ = some (.int .i64 st) := q
  have hcall := number_int st W
  have H := Lib.hid h
  clear h
  go_enter Tryz.func44, Tryz.ntmps44
  go_wp2_with fail
  refine hcall.mono ?_
  rintro en w' ⟨rfl, c⟩
  have H2 := Lib.hid (H.out.later c)
  clear c
  go_wp2_with fail
  go_ret
  exact ⟨rfl, H2.out⟩
set_option maxRecDepth 100000 in
theorem m8_any (m : ModP) (w0 : World) (t f me g e : Value) (st : Int) (d : Value) (vb mb cv wb : Nat) (a : List UInt8) (W : World) (h : MI w0 t f me g e st d vb mb cv wb 0 a W) (hE : OpEnv w0) (hv : FuncsAt w0 f m.funcs) (hO : WOk m) (hlen : (listL codeL m.funcs).length ≤ 140737488355000) :
    Calls Tryz.prog 45 #[.pointer (some ⟨w0.heap.size, 0, none⟩), .pointer (some ⟨cv, 0, none⟩)] W fun en w' => en = .returned (.string (bs (listL codeL m.funcs))) ∧ MI w0 t f me g e st d vb mb cv wb (cntC m.funcs m.funcs.length) a w' := by
  have q := cell_of_row W _ 1 _ _ _ h.box
  replace q : W.cell? ⟨w0.heap.size, 1, none⟩ = some f := q
  have p := cell_of_row W _ 0 _ _ _ h.cvx
  replace p : W.cell? ⟨cv, 0, none⟩ = some (.func (.func 19) #[] #[.pointer (some ⟨vb, 0, none⟩)]) := p
  have hcall := list_code f m.funcs vb mb 0 w0 W hE hv h.bel (Nat.le_of_lt h.ord.1) (by have := h.ord.2.1; omega) (cell_of_row W _ 0 _ _ _ h.vbx) h.inf (by have := hO.cnt; omega) hO.ins hO.loc hO.lab hlen
  rw [Nat.zero_add] at hcall
  have H := Lib.hid h
  obtain ⟨S, hS⟩ : ∃ S, bs (listL codeL m.funcs) = S := ⟨_, rfl⟩
  rw [hS] at hcall ⊢
  clear h hS hlen
  obtain ⟨la, cp, rfl, _⟩ := hv.form
  go_enter Tryz.func45, Tryz.ntmps45
  go_wp2_with fail
  refine hcall.mono ?_
  rintro en w' ⟨rfl, i9, k9⟩
  have H2 := Lib.hid (H.out.infos k9 i9)
  clear i9 k9
  go_wp2_with fail
  go_ret
  exact ⟨rfl, H2.out⟩
set_option maxRecDepth 100000 in
set_option maxHeartbeats 8000000 in
theorem enc_yes (t f me g e : Value) (st : Int) (d : Value) (m : ModP) (w : World) (hE : MEnv w) (hM : ModAt w t f me g e st d m) (hO : WOk m) (hr : rightM m = true) (hlen : (modL m).length ≤ 140737488350000) :
    Calls Tryz.prog 9 #[modV t f me g e st d] w fun en w' => en = .returned (.tuple #[.string (bs (if (modL m).length ≤ 1048576 then modL m else [])), .int .i64 (if (modL m).length ≤ 1048576 then 0 else 5)]) ∧ Below w.heap.size w w' := by
  obtain ⟨RS, hRS⟩ : ∃ RS, bs (if (modL m).length ≤ 1048576 then modL m else []) = RS := ⟨_, rfl⟩
  obtain ⟨RE, hRE⟩ : ∃ RE : Int, (if (modL m).length ≤ 1048576 then 0 else 5) = RE := ⟨_, rfl⟩
  rw [hRS, hRE]
  have HRS := Lib.hid hRS
  have HRE := Lib.hid hRE
  clear hRS hRE
  obtain ⟨W1, hW1⟩ : ∃ W1, w.alloc (.cells #[t, f, me, g, e, .int .i64 st, d] 29) = W1 := ⟨_, rfl⟩
  have B1 : Below w.heap.size w W1 := by rw [← hW1]; exact (Below.refl _ _).alloc (Nat.le_refl _) _
  have z1 : W1.heap.size = w.heap.size + 1 := by rw [← hW1]; simp
  have hbox : W1.heap[w.heap.size]? = some (.cells #[t, f, me, g, e, .int .i64 st, d] 29 (0, 0)) := by rw [← hW1]; exact heap_alloc_new _ _
  have hcall := rightM_any t f me g e st d m W1 (hE.later B1) (hM.later B1)
  rw [hr] at hcall
  have HRC := Lib.hid hcall
  have HOE := Lib.hid hE.op
  have HO := Lib.hid hO
  have HB1 := Lib.hid B1
  have HZ1 := Lib.hid z1
  have HBOX := Lib.hid hbox
  have HW1 := Lib.hid hW1
  have q0 := cell_of_row W1 _ 0 _ _ _ hbox
  have q1 := cell_of_row W1 _ 1 _ _ _ hbox
  have q2 := cell_of_row W1 _ 2 _ _ _ hbox
  have q3 := cell_of_row W1 _ 3 _ _ _ hbox
  have q4 := cell_of_row W1 _ 4 _ _ _ hbox
  have q5 := cell_of_row W1 _ 5 _ _ _ hbox
  have q6 := cell_of_row W1 _ 6 _ _ _ hbox
  replace q0 : W1.cell? ⟨w.heap.size, 0, none⟩ = some t := q0
  replace q1 : W1.cell? ⟨w.heap.size, 1, none⟩ = some f := q1
  replace q2 : W1.cell? ⟨w.heap.size, 2, none⟩ = some me := q2
  replace q3 : W1.cell? ⟨w.heap.size, 3, none⟩ = some g := q3
  replace q4 : W1.cell? ⟨w.heap.size, 4, none⟩ = some e := q4
  replace q5 : W1.cell? ⟨w.heap.size, 5, none⟩ = some (.int .i64 st) := q5
  replace q6 : W1.cell? ⟨w.heap.size, 6, none⟩ = some d := q6
  have hmm := @run_makeMap Tryz.prog
  have hmf : ∀ (fn : Fn) (first cap : Array Value) (w : World), (Instr.makeFunc fn first cap).run Tryz.prog w = .ok (.func fn first cap) w := fun _ _ _ _ => rfl
  obtain ⟨A9, hA9⟩ : ∃ A9, (modL m).length = A9 := ⟨_, rfl⟩
  have HA9 := Lib.hid hA9
  have HML := Lib.hid (modL_eq m)
  have HLN := Lib.hid hlen
  obtain ⟨ta, tc, rfl, _, _⟩ := hM.types.form
  obtain ⟨fa, fc, rfl, _, _⟩ := hM.funcs.form
  obtain ⟨ma, mc, rfl, _, _⟩ := hM.memory.form
  obtain ⟨ga, gc, rfl, _, _⟩ := hM.globals.form
  obtain ⟨ea, ec, rfl, _, _⟩ := hM.exports.form
  obtain ⟨da, dc, rfl, _, _⟩ := hM.data.form
  obtain rfl : st = m.start := hM.start
  have HM := Lib.hid hM
  clear hE hM hO hr hlen hcall B1 z1 hbox hW1 hA9
  unfold modV
  go_enter Tryz.func9, Tryz.ntmps9
  go_upto_region 1 with fail
  rw [HW1.out]
  go_wp2_with fail
  refine HRC.out.mono ?_
  rintro en w2 ⟨rfl, c2⟩
  have z2 := c2.size
  have HB2 := Lib.hid (HB1.out.trans (c2.mono (by have := HZ1.out; omega)))
  have HBOX2 := Lib.hid ((c2.block w.heap.size (by have := HZ1.out; omega)).trans HBOX.out)
  have hNN := Lib.hid (show w.heap.size < w2.heap.size by have := HZ1.out; omega)
  replace q5 := cell_later c2 q5
  clear c2 q0 q1 q2 q3 q4 q6 z2
  go_upto_region 4 with fail
  obtain ⟨W4, hW4⟩ : ∃ W4, (w2.alloc (.map #[] 0)).alloc (.cells #[.map (some w2.heap.size)] 74) = W4 := ⟨_, rfl⟩
  have z4 : W4.heap.size = w2.heap.size + 2 := by rw [← hW4]; simp
  have HC4 : Below w2.heap.size w2 W4 := by rw [← hW4]; exact ((Below.refl _ _).alloc (Nat.le_refl _) _).alloc (by simp) _
  have HMB4 := Lib.hid (show InfosAt W4 w2.heap.size 0 by
    refine ⟨0, _, ownsMap_of (World.ownsMap_made w2 Tryz.prog 3 asIs) ?_, ⟨⟨_, rfl⟩, fun code z hz => by cases hz⟩, Nat.le_refl _⟩
    rw [← hW4]
    exact Below.heap_alloc _ _ _ (by simp))
  have HVB4 := Lib.hid (show W4.heap[w2.heap.size + 1]? = some (.cells #[.map (some w2.heap.size)] 74 (0, 0)) by
    have h := heap_alloc_new (w2.alloc (.map #[] 0)) (.cells #[.map (some w2.heap.size)] 74)
    rw [hW4, show (w2.alloc (.map #[] 0)).heap.size = w2.heap.size + 1 by simp] at h
    exact h)
  have HBB4 := Lib.hid HC4
  rw [hW4]
  replace q5 := cell_later HC4 q5
  have HZ4 := Lib.hid z4
  clear hW4 HC4 z4
  go_upto_region 6 with fail
  obtain ⟨W5, hW5⟩ : ∃ W5, W4.alloc (.cells #[.func (.func 19) #[] #[.pointer (some ⟨w2.heap.size + 1, 0, none⟩)]] 89) = W5 := ⟨_, rfl⟩
  rw [hW5]
  have z5 : W5.heap.size = w2.heap.size + 3 := by rw [← hW5]; simp; have := HZ4.out; omega
  have HC5 : Below W4.heap.size W4 W5 := by rw [← hW5]; exact (Below.refl _ _).alloc (Nat.le_refl _) _
  have HCV5 := Lib.hid (show W5.heap[W4.heap.size]? = some (.cells #[.func (.func 19) #[] #[.pointer (some ⟨w2.heap.size + 1, 0, none⟩)]] 89 (0, 0)) by
    have h := heap_alloc_new W4 (.cells #[.func (.func 19) #[] #[.pointer (some ⟨w2.heap.size + 1, 0, none⟩)]] 89)
    rw [hW5] at h
    exact h)
  replace q5 := cell_later HC5 q5
  have HBB5 := Lib.hid (HBB4.out.trans (HC5.mono (by have := HZ4.out; omega)))
  have HMB5 := Lib.hid (HMB4.out.later HC5)
  have HVB5 := Lib.hid ((HC5.block _ (by have := HZ4.out; omega)).trans HVB4.out)
  have HZ5 := Lib.hid z5
  clear hW5 HC5 z5
  obtain ⟨W6, hW6⟩ : ∃ W6, W5.alloc (.cells #[.pointer none, .slice none 0 0] 92) = W6 := ⟨_, rfl⟩
  have HC6 : Below W5.heap.size W5 W6 := by rw [← hW6]; exact (Below.refl _ _).alloc (Nat.le_refl _) _
  have HM6 := Lib.hid (show MI w (.slice ta m.types.length tc) (.slice fa m.funcs.length fc) (.slice ma m.memory.length mc) (.slice ga m.globals.length gc) (.slice ea m.exports.length ec) m.start (.slice da m.data.length dc) (w2.heap.size + 1) w2.heap.size W4.heap.size W5.heap.size 0 [] W6 by
    have o := hNN.out
    have o4 := HZ4.out
    have o5 := HZ5.out
    refine ⟨(HB2.out.trans (HBB5.out.mono (by omega))).trans (HC6.mono (by omega)), ((HC6.block _ (by omega)).trans (HBB5.out.block _ (by omega))).trans HBOX2.out, (HC6.block _ (by omega)).trans HVB5.out, (HC6.block _ (by omega)).trans HCV5.out, HMB5.out.later HC6, ?_, by omega⟩
    rw [← hW6]
    exact Lib.IsBuilderF.of (Lib.fresh_isBuilder _ _ _))
  have HW6 := Lib.hid hW6
  obtain ⟨wb, hwb⟩ : ∃ wb, W5.heap.size = wb := ⟨_, rfl⟩
  rw [hwb] at HM6
  obtain ⟨ST, hST⟩ : ∃ ST : Nat, (if m.start = -1 then 0 else 1) = ST := ⟨_, rfl⟩
  have key : ST = 0 ∧ m.start = -1 ∨ ST = 1 ∧ m.start ≠ -1 := by
    by_cases h : m.start = -1
    · rw [if_pos h] at hST; exact .inl ⟨hST.symm, h⟩
    · rw [if_neg h] at hST; exact .inr ⟨hST.symm, h⟩
  rw [hST] at HML
  have HWB := Lib.hid hwb
  clear hW6 HC6 hST
  rcases key with ⟨rfl, hst⟩ | ⟨rfl, hst⟩
  · have hsb : (m.start == -1) = true := by rw [hst]; rfl
    have hsn : (m.start != -1) = false := by rw [hst]; rfl
    have HST := Lib.hid hst
    clear hst
    go_upto_region 9 with fail
    rw [HW6.out]
    clear q5
    go_wp2_with fail
    refine (write_any bt_writer wb wb [] ⟨#[0, 97, 115, 109, 1, 0, 0, 0]⟩ W6 HM6.out.bld (by decide) (Nat.le_of_lt HM6.out.wlt)).mono ?_
    rintro en X0 ⟨rfl, b9, c9, _⟩
    have HX0 := Lib.hid (HM6.out.wrote (acc' := magicL) c9 b9)
    clear b9 c9
    have q := cell_of_row X0 _ 0 _ _ _ HX0.out.box
    replace q : X0.cell? ⟨w.heap.size, 0, none⟩ = some (.slice ta m.types.length tc) := q
    go_wp2_with fail
    refine (section_any w _ _ _ _ _ _ _ _ _ _ wb 0 0 (magicL) 1 m.types.length (listL ftL m.types) 27 #[.pointer (some ⟨w.heap.size, 0, none⟩)] eg2 X0 HX0.out (Nat.le_refl _) (fun hm W a h => m2_any m w _ _ _ _ _ _ _ _ _ _ _ _ a W h HM.out.types HO.out (by have h9 := (show (listL ftL m.types).length ≤ 140737488350000 from by have h1 := sect_len (id := 1) (l := (listL ftL m.types)) hm; have h2 := HLN.out; rw [HML.out] at h2; simp only [List.length_append] at h2; omega); omega)) (fun hm => by have h1 := sect_len (id := 1) (l := (listL ftL m.types)) hm; have h2 := HLN.out; rw [HML.out] at h2; simp only [List.length_append] at h2 ⊢; omega)).mono ?_
    rintro en X1 ⟨rfl, m9⟩
    have HX1 := Lib.hid m9
    clear m9 q
    have q := cell_of_row X1 _ 1 _ _ _ HX1.out.box
    replace q : X1.cell? ⟨w.heap.size, 1, none⟩ = some (.slice fa m.funcs.length fc) := q
    go_wp2_with fail
    refine (section_any w _ _ _ _ _ _ _ _ _ _ wb 0 0 (magicL ++ sectL 1 m.types.length (listL ftL m.types)) 3 m.funcs.length (listL (fun f => numL f.ty) m.funcs) 30 #[.pointer (some ⟨w.heap.size, 0, none⟩)] eg3 X1 HX1.out (Nat.le_refl _) (fun hm W a h => m3_any m w _ _ _ _ _ _ _ _ _ _ _ _ a W h HM.out.funcs HO.out (by have h9 := (show (listL (fun f => numL f.ty) m.funcs).length ≤ 140737488350000 from by have h1 := sect_len (id := 3) (l := (listL (fun f => numL f.ty) m.funcs)) hm; have h2 := HLN.out; rw [HML.out] at h2; simp only [List.length_append] at h2; omega); omega)) (fun hm => by have h1 := sect_len (id := 3) (l := (listL (fun f => numL f.ty) m.funcs)) hm; have h2 := HLN.out; rw [HML.out] at h2; simp only [List.length_append] at h2 ⊢; omega)).mono ?_
    rintro en X2 ⟨rfl, m9⟩
    have HX2 := Lib.hid m9
    clear m9 q
    have q := cell_of_row X2 _ 2 _ _ _ HX2.out.box
    replace q : X2.cell? ⟨w.heap.size, 2, none⟩ = some (.slice ma m.memory.length mc) := q
    go_wp2_with fail
    refine (section_any w _ _ _ _ _ _ _ _ _ _ wb 0 0 (magicL ++ sectL 1 m.types.length (listL ftL m.types) ++ sectL 3 m.funcs.length (listL (fun f => numL f.ty) m.funcs)) 5 m.memory.length (listL memL m.memory) 34 #[.pointer (some ⟨w.heap.size, 0, none⟩)] eg4 X2 HX2.out (Nat.le_refl _) (fun hm W a h => m4_any m w _ _ _ _ _ _ _ _ _ _ _ _ a W h HM.out.memory HO.out (by have h9 := (show (listL memL m.memory).length ≤ 140737488350000 from by have h1 := sect_len (id := 5) (l := (listL memL m.memory)) hm; have h2 := HLN.out; rw [HML.out] at h2; simp only [List.length_append] at h2; omega); omega)) (fun hm => by have h1 := sect_len (id := 5) (l := (listL memL m.memory)) hm; have h2 := HLN.out; rw [HML.out] at h2; simp only [List.length_append] at h2 ⊢; omega)).mono ?_
    rintro en X3 ⟨rfl, m9⟩
    have HX3 := Lib.hid m9
    clear m9 q
    have q := cell_of_row X3 _ 3 _ _ _ HX3.out.box
    replace q : X3.cell? ⟨w.heap.size, 3, none⟩ = some (.slice ga m.globals.length gc) := q
    go_wp2_with fail
    refine (section_any w _ _ _ _ _ _ _ _ _ _ wb 0 0 (magicL ++ sectL 1 m.types.length (listL ftL m.types) ++ sectL 3 m.funcs.length (listL (fun f => numL f.ty) m.funcs) ++ sectL 5 m.memory.length (listL memL m.memory)) 6 m.globals.length (listL globL m.globals) 37 #[.pointer (some ⟨w.heap.size, 0, none⟩)] eg5 X3 HX3.out (Nat.le_refl _) (fun hm W a h => m5_any m w _ _ _ _ _ _ _ _ _ _ _ _ a W h HM.out.globals HO.out (by have h9 := (show (listL globL m.globals).length ≤ 140737488350000 from by have h1 := sect_len (id := 6) (l := (listL globL m.globals)) hm; have h2 := HLN.out; rw [HML.out] at h2; simp only [List.length_append] at h2; omega); omega)) (fun hm => by have h1 := sect_len (id := 6) (l := (listL globL m.globals)) hm; have h2 := HLN.out; rw [HML.out] at h2; simp only [List.length_append] at h2 ⊢; omega)).mono ?_
    rintro en X4 ⟨rfl, m9⟩
    have HX4 := Lib.hid m9
    clear m9 q
    have q := cell_of_row X4 _ 4 _ _ _ HX4.out.box
    replace q : X4.cell? ⟨w.heap.size, 4, none⟩ = some (.slice ea m.exports.length ec) := q
    go_wp2_with fail
    refine (section_any w _ _ _ _ _ _ _ _ _ _ wb 0 0 (magicL ++ sectL 1 m.types.length (listL ftL m.types) ++ sectL 3 m.funcs.length (listL (fun f => numL f.ty) m.funcs) ++ sectL 5 m.memory.length (listL memL m.memory) ++ sectL 6 m.globals.length (listL globL m.globals)) 7 m.exports.length (listL expL m.exports) 41 #[.pointer (some ⟨w.heap.size, 0, none⟩)] eg6 X4 HX4.out (Nat.le_refl _) (fun hm W a h => m6_any m w _ _ _ _ _ _ _ _ _ _ _ _ a W h HM.out.exports HO.out (by have h9 := (show (listL expL m.exports).length ≤ 140737488350000 from by have h1 := sect_len (id := 7) (l := (listL expL m.exports)) hm; have h2 := HLN.out; rw [HML.out] at h2; simp only [List.length_append] at h2; omega); omega)) (fun hm => by have h1 := sect_len (id := 7) (l := (listL expL m.exports)) hm; have h2 := HLN.out; rw [HML.out] at h2; simp only [List.length_append] at h2 ⊢; omega)).mono ?_
    rintro en X5 ⟨rfl, m9⟩
    have HX5 := Lib.hid m9
    clear m9 q
    go_wp2_with fail
    refine (section_any w _ _ _ _ _ _ _ _ _ _ wb 0 0 (magicL ++ sectL 1 m.types.length (listL ftL m.types) ++ sectL 3 m.funcs.length (listL (fun f => numL f.ty) m.funcs) ++ sectL 5 m.memory.length (listL memL m.memory) ++ sectL 6 m.globals.length (listL globL m.globals) ++ sectL 7 m.exports.length (listL expL m.exports)) 8 0 (numL m.start) 44 #[.pointer (some ⟨w.heap.size, 0, none⟩)] eg7 X5 HX5.out (Nat.le_refl _) (fun hm W a h => m7_any w _ _ _ _ _ _ _ _ _ _ _ _ a W h) (fun hm => by have h1 := sect_len (id := 8) (l := (numL m.start)) hm; have h2 := HLN.out; rw [HML.out] at h2; simp only [List.length_append] at h2 ⊢; omega)).mono ?_
    rintro en X6 ⟨rfl, m9⟩
    have HX6 := Lib.hid m9
    clear m9
    have q := cell_of_row X6 _ 1 _ _ _ HX6.out.box
    replace q : X6.cell? ⟨w.heap.size, 1, none⟩ = some (.slice fa m.funcs.length fc) := q
    go_wp2_with fail
    refine (section_any w _ _ _ _ _ _ _ _ _ _ wb 0 (cntC m.funcs m.funcs.length) (magicL ++ sectL 1 m.types.length (listL ftL m.types) ++ sectL 3 m.funcs.length (listL (fun f => numL f.ty) m.funcs) ++ sectL 5 m.memory.length (listL memL m.memory) ++ sectL 6 m.globals.length (listL globL m.globals) ++ sectL 7 m.exports.length (listL expL m.exports) ++ sectL 8 0 (numL m.start)) 10 m.funcs.length (listL codeL m.funcs) 45 #[.pointer (some ⟨w.heap.size, 0, none⟩), .pointer (some ⟨W4.heap.size, 0, none⟩)] eg8 X6 HX6.out (Nat.zero_le _) (fun hm W a h => m8_any m w _ _ _ _ _ _ _ _ _ _ _ a W h HOE.out HM.out.funcs HO.out (by have h9 := (show (listL codeL m.funcs).length ≤ 140737488350000 from by have h1 := sect_len (id := 10) (l := (listL codeL m.funcs)) hm; have h2 := HLN.out; rw [HML.out] at h2; simp only [List.length_append] at h2; omega); omega)) (fun hm => by have h1 := sect_len (id := 10) (l := (listL codeL m.funcs)) hm; have h2 := HLN.out; rw [HML.out] at h2; simp only [List.length_append] at h2 ⊢; omega)).mono ?_
    rintro en X7 ⟨rfl, m9⟩
    have HX7 := Lib.hid m9
    clear m9 q
    have q := cell_of_row X7 _ 6 _ _ _ HX7.out.box
    replace q : X7.cell? ⟨w.heap.size, 6, none⟩ = some (.slice da m.data.length dc) := q
    go_wp2_with fail
    refine (section_any w _ _ _ _ _ _ _ _ _ _ wb (cntC m.funcs m.funcs.length) (cntC m.funcs m.funcs.length) (magicL ++ sectL 1 m.types.length (listL ftL m.types) ++ sectL 3 m.funcs.length (listL (fun f => numL f.ty) m.funcs) ++ sectL 5 m.memory.length (listL memL m.memory) ++ sectL 6 m.globals.length (listL globL m.globals) ++ sectL 7 m.exports.length (listL expL m.exports) ++ sectL 8 0 (numL m.start) ++ sectL 10 m.funcs.length (listL codeL m.funcs)) 11 m.data.length (listL dataL m.data) 46 #[.pointer (some ⟨w.heap.size, 0, none⟩)] eg9 X7 HX7.out (Nat.le_refl _) (fun hm W a h => m9_any m w _ _ _ _ _ _ _ _ _ _ _ _ a W h HM.out.data HO.out (by have h9 := (show (listL dataL m.data).length ≤ 140737488350000 from by have h1 := sect_len (id := 11) (l := (listL dataL m.data)) hm; have h2 := HLN.out; rw [HML.out] at h2; simp only [List.length_append] at h2; omega); omega)) (fun hm => by have h1 := sect_len (id := 11) (l := (listL dataL m.data)) hm; have h2 := HLN.out; rw [HML.out] at h2; simp only [List.length_append] at h2 ⊢; omega)).mono ?_
    rintro en X8 ⟨rfl, m9⟩
    have HX8 := Lib.hid m9
    clear m9 q
    have HF := Lib.hid (show Bld 92 wb wb (modL m) X8 by rw [HML.out]; exact HX8.out.bld)
    have HBF := Lib.hid HX8.out.bel
    have hwl := Lib.hid HX8.out.wlt
    go_wp2_with fail
    refine (len_any wb wb (modL m) X8 HF.out).mono ?_
    rintro en X9 ⟨rfl, rfl⟩
    rw [show (modL m).length = A9 from HA9.out]
    by_cases hA : A9 ≤ 1048576
    · have hgt : ¬ (1048576 : Int) < (A9 : Int) := by omega
      have hwo := Lib.hid (show w.heap.size ≤ wb by have := HX8.out.ord; omega)
      obtain rfl : bs (modL m) = RS := by rw [← HRS.out, if_pos (by rw [HA9.out]; exact hA)]
      obtain rfl : 0 = RE := by rw [← HRE.out, if_pos (by rw [HA9.out]; exact hA)]
      go_wp2_with fail
      refine (string_any wb wb (modL m) _ HF.out (Nat.le_of_lt hwl.out)).mono ?_
      rintro en X10 ⟨rfl, b9, c9, _⟩
      have HE := Lib.hid (HBF.out.trans (c9.mono hwo.out))
      clear b9 c9
      go_wp2_with fail
      go_ret2
      exact ⟨rfl, HE.out⟩
    · have hgt : (1048576 : Int) < (A9 : Int) := by omega
      obtain rfl : bs [] = RS := by rw [← HRS.out, if_neg (by rw [HA9.out]; exact hA)]
      obtain rfl : 5 = RE := by rw [← HRE.out, if_neg (by rw [HA9.out]; exact hA)]
      go_wp2_with fail
      go_ret2
      exact ⟨rfl, HBF.out⟩
  · have hsb : (m.start == -1) = false := by rw [beq_eq_false_iff_ne]; exact hst
    have hsn : (m.start != -1) = true := by rw [bne, hsb]; rfl
    have HST := Lib.hid hst
    clear hst
    go_upto_region 9 with fail
    rw [HW6.out]
    clear q5
    go_wp2_with fail
    refine (write_any bt_writer wb wb [] ⟨#[0, 97, 115, 109, 1, 0, 0, 0]⟩ W6 HM6.out.bld (by decide) (Nat.le_of_lt HM6.out.wlt)).mono ?_
    rintro en X0 ⟨rfl, b9, c9, _⟩
    have HX0 := Lib.hid (HM6.out.wrote (acc' := magicL) c9 b9)
    clear b9 c9
    have q := cell_of_row X0 _ 0 _ _ _ HX0.out.box
    replace q : X0.cell? ⟨w.heap.size, 0, none⟩ = some (.slice ta m.types.length tc) := q
    go_wp2_with fail
    refine (section_any w _ _ _ _ _ _ _ _ _ _ wb 0 0 (magicL) 1 m.types.length (listL ftL m.types) 27 #[.pointer (some ⟨w.heap.size, 0, none⟩)] eg2 X0 HX0.out (Nat.le_refl _) (fun hm W a h => m2_any m w _ _ _ _ _ _ _ _ _ _ _ _ a W h HM.out.types HO.out (by have h9 := (show (listL ftL m.types).length ≤ 140737488350000 from by have h1 := sect_len (id := 1) (l := (listL ftL m.types)) hm; have h2 := HLN.out; rw [HML.out] at h2; simp only [List.length_append] at h2; omega); omega)) (fun hm => by have h1 := sect_len (id := 1) (l := (listL ftL m.types)) hm; have h2 := HLN.out; rw [HML.out] at h2; simp only [List.length_append] at h2 ⊢; omega)).mono ?_
    rintro en X1 ⟨rfl, m9⟩
    have HX1 := Lib.hid m9
    clear m9 q
    have q := cell_of_row X1 _ 1 _ _ _ HX1.out.box
    replace q : X1.cell? ⟨w.heap.size, 1, none⟩ = some (.slice fa m.funcs.length fc) := q
    go_wp2_with fail
    refine (section_any w _ _ _ _ _ _ _ _ _ _ wb 0 0 (magicL ++ sectL 1 m.types.length (listL ftL m.types)) 3 m.funcs.length (listL (fun f => numL f.ty) m.funcs) 30 #[.pointer (some ⟨w.heap.size, 0, none⟩)] eg3 X1 HX1.out (Nat.le_refl _) (fun hm W a h => m3_any m w _ _ _ _ _ _ _ _ _ _ _ _ a W h HM.out.funcs HO.out (by have h9 := (show (listL (fun f => numL f.ty) m.funcs).length ≤ 140737488350000 from by have h1 := sect_len (id := 3) (l := (listL (fun f => numL f.ty) m.funcs)) hm; have h2 := HLN.out; rw [HML.out] at h2; simp only [List.length_append] at h2; omega); omega)) (fun hm => by have h1 := sect_len (id := 3) (l := (listL (fun f => numL f.ty) m.funcs)) hm; have h2 := HLN.out; rw [HML.out] at h2; simp only [List.length_append] at h2 ⊢; omega)).mono ?_
    rintro en X2 ⟨rfl, m9⟩
    have HX2 := Lib.hid m9
    clear m9 q
    have q := cell_of_row X2 _ 2 _ _ _ HX2.out.box
    replace q : X2.cell? ⟨w.heap.size, 2, none⟩ = some (.slice ma m.memory.length mc) := q
    go_wp2_with fail
    refine (section_any w _ _ _ _ _ _ _ _ _ _ wb 0 0 (magicL ++ sectL 1 m.types.length (listL ftL m.types) ++ sectL 3 m.funcs.length (listL (fun f => numL f.ty) m.funcs)) 5 m.memory.length (listL memL m.memory) 34 #[.pointer (some ⟨w.heap.size, 0, none⟩)] eg4 X2 HX2.out (Nat.le_refl _) (fun hm W a h => m4_any m w _ _ _ _ _ _ _ _ _ _ _ _ a W h HM.out.memory HO.out (by have h9 := (show (listL memL m.memory).length ≤ 140737488350000 from by have h1 := sect_len (id := 5) (l := (listL memL m.memory)) hm; have h2 := HLN.out; rw [HML.out] at h2; simp only [List.length_append] at h2; omega); omega)) (fun hm => by have h1 := sect_len (id := 5) (l := (listL memL m.memory)) hm; have h2 := HLN.out; rw [HML.out] at h2; simp only [List.length_append] at h2 ⊢; omega)).mono ?_
    rintro en X3 ⟨rfl, m9⟩
    have HX3 := Lib.hid m9
    clear m9 q
    have q := cell_of_row X3 _ 3 _ _ _ HX3.out.box
    replace q : X3.cell? ⟨w.heap.size, 3, none⟩ = some (.slice ga m.globals.length gc) := q
    go_wp2_with fail
    refine (section_any w _ _ _ _ _ _ _ _ _ _ wb 0 0 (magicL ++ sectL 1 m.types.length (listL ftL m.types) ++ sectL 3 m.funcs.length (listL (fun f => numL f.ty) m.funcs) ++ sectL 5 m.memory.length (listL memL m.memory)) 6 m.globals.length (listL globL m.globals) 37 #[.pointer (some ⟨w.heap.size, 0, none⟩)] eg5 X3 HX3.out (Nat.le_refl _) (fun hm W a h => m5_any m w _ _ _ _ _ _ _ _ _ _ _ _ a W h HM.out.globals HO.out (by have h9 := (show (listL globL m.globals).length ≤ 140737488350000 from by have h1 := sect_len (id := 6) (l := (listL globL m.globals)) hm; have h2 := HLN.out; rw [HML.out] at h2; simp only [List.length_append] at h2; omega); omega)) (fun hm => by have h1 := sect_len (id := 6) (l := (listL globL m.globals)) hm; have h2 := HLN.out; rw [HML.out] at h2; simp only [List.length_append] at h2 ⊢; omega)).mono ?_
    rintro en X4 ⟨rfl, m9⟩
    have HX4 := Lib.hid m9
    clear m9 q
    have q := cell_of_row X4 _ 4 _ _ _ HX4.out.box
    replace q : X4.cell? ⟨w.heap.size, 4, none⟩ = some (.slice ea m.exports.length ec) := q
    go_wp2_with fail
    refine (section_any w _ _ _ _ _ _ _ _ _ _ wb 0 0 (magicL ++ sectL 1 m.types.length (listL ftL m.types) ++ sectL 3 m.funcs.length (listL (fun f => numL f.ty) m.funcs) ++ sectL 5 m.memory.length (listL memL m.memory) ++ sectL 6 m.globals.length (listL globL m.globals)) 7 m.exports.length (listL expL m.exports) 41 #[.pointer (some ⟨w.heap.size, 0, none⟩)] eg6 X4 HX4.out (Nat.le_refl _) (fun hm W a h => m6_any m w _ _ _ _ _ _ _ _ _ _ _ _ a W h HM.out.exports HO.out (by have h9 := (show (listL expL m.exports).length ≤ 140737488350000 from by have h1 := sect_len (id := 7) (l := (listL expL m.exports)) hm; have h2 := HLN.out; rw [HML.out] at h2; simp only [List.length_append] at h2; omega); omega)) (fun hm => by have h1 := sect_len (id := 7) (l := (listL expL m.exports)) hm; have h2 := HLN.out; rw [HML.out] at h2; simp only [List.length_append] at h2 ⊢; omega)).mono ?_
    rintro en X5 ⟨rfl, m9⟩
    have HX5 := Lib.hid m9
    clear m9 q
    go_wp2_with fail
    refine (section_any w _ _ _ _ _ _ _ _ _ _ wb 0 0 (magicL ++ sectL 1 m.types.length (listL ftL m.types) ++ sectL 3 m.funcs.length (listL (fun f => numL f.ty) m.funcs) ++ sectL 5 m.memory.length (listL memL m.memory) ++ sectL 6 m.globals.length (listL globL m.globals) ++ sectL 7 m.exports.length (listL expL m.exports)) 8 1 (numL m.start) 44 #[.pointer (some ⟨w.heap.size, 0, none⟩)] eg7 X5 HX5.out (Nat.le_refl _) (fun hm W a h => m7_any w _ _ _ _ _ _ _ _ _ _ _ _ a W h) (fun hm => by have h1 := sect_len (id := 8) (l := (numL m.start)) hm; have h2 := HLN.out; rw [HML.out] at h2; simp only [List.length_append] at h2 ⊢; omega)).mono ?_
    rintro en X6 ⟨rfl, m9⟩
    have HX6 := Lib.hid m9
    clear m9
    have q := cell_of_row X6 _ 1 _ _ _ HX6.out.box
    replace q : X6.cell? ⟨w.heap.size, 1, none⟩ = some (.slice fa m.funcs.length fc) := q
    go_wp2_with fail
    refine (section_any w _ _ _ _ _ _ _ _ _ _ wb 0 (cntC m.funcs m.funcs.length) (magicL ++ sectL 1 m.types.length (listL ftL m.types) ++ sectL 3 m.funcs.length (listL (fun f => numL f.ty) m.funcs) ++ sectL 5 m.memory.length (listL memL m.memory) ++ sectL 6 m.globals.length (listL globL m.globals) ++ sectL 7 m.exports.length (listL expL m.exports) ++ sectL 8 1 (numL m.start)) 10 m.funcs.length (listL codeL m.funcs) 45 #[.pointer (some ⟨w.heap.size, 0, none⟩), .pointer (some ⟨W4.heap.size, 0, none⟩)] eg8 X6 HX6.out (Nat.zero_le _) (fun hm W a h => m8_any m w _ _ _ _ _ _ _ _ _ _ _ a W h HOE.out HM.out.funcs HO.out (by have h9 := (show (listL codeL m.funcs).length ≤ 140737488350000 from by have h1 := sect_len (id := 10) (l := (listL codeL m.funcs)) hm; have h2 := HLN.out; rw [HML.out] at h2; simp only [List.length_append] at h2; omega); omega)) (fun hm => by have h1 := sect_len (id := 10) (l := (listL codeL m.funcs)) hm; have h2 := HLN.out; rw [HML.out] at h2; simp only [List.length_append] at h2 ⊢; omega)).mono ?_
    rintro en X7 ⟨rfl, m9⟩
    have HX7 := Lib.hid m9
    clear m9 q
    have q := cell_of_row X7 _ 6 _ _ _ HX7.out.box
    replace q : X7.cell? ⟨w.heap.size, 6, none⟩ = some (.slice da m.data.length dc) := q
    go_wp2_with fail
    refine (section_any w _ _ _ _ _ _ _ _ _ _ wb (cntC m.funcs m.funcs.length) (cntC m.funcs m.funcs.length) (magicL ++ sectL 1 m.types.length (listL ftL m.types) ++ sectL 3 m.funcs.length (listL (fun f => numL f.ty) m.funcs) ++ sectL 5 m.memory.length (listL memL m.memory) ++ sectL 6 m.globals.length (listL globL m.globals) ++ sectL 7 m.exports.length (listL expL m.exports) ++ sectL 8 1 (numL m.start) ++ sectL 10 m.funcs.length (listL codeL m.funcs)) 11 m.data.length (listL dataL m.data) 46 #[.pointer (some ⟨w.heap.size, 0, none⟩)] eg9 X7 HX7.out (Nat.le_refl _) (fun hm W a h => m9_any m w _ _ _ _ _ _ _ _ _ _ _ _ a W h HM.out.data HO.out (by have h9 := (show (listL dataL m.data).length ≤ 140737488350000 from by have h1 := sect_len (id := 11) (l := (listL dataL m.data)) hm; have h2 := HLN.out; rw [HML.out] at h2; simp only [List.length_append] at h2; omega); omega)) (fun hm => by have h1 := sect_len (id := 11) (l := (listL dataL m.data)) hm; have h2 := HLN.out; rw [HML.out] at h2; simp only [List.length_append] at h2 ⊢; omega)).mono ?_
    rintro en X8 ⟨rfl, m9⟩
    have HX8 := Lib.hid m9
    clear m9 q
    have HF := Lib.hid (show Bld 92 wb wb (modL m) X8 by rw [HML.out]; exact HX8.out.bld)
    have HBF := Lib.hid HX8.out.bel
    have hwl := Lib.hid HX8.out.wlt
    go_wp2_with fail
    refine (len_any wb wb (modL m) X8 HF.out).mono ?_
    rintro en X9 ⟨rfl, rfl⟩
    rw [show (modL m).length = A9 from HA9.out]
    by_cases hA : A9 ≤ 1048576
    · have hgt : ¬ (1048576 : Int) < (A9 : Int) := by omega
      have hwo := Lib.hid (show w.heap.size ≤ wb by have := HX8.out.ord; omega)
      obtain rfl : bs (modL m) = RS := by rw [← HRS.out, if_pos (by rw [HA9.out]; exact hA)]
      obtain rfl : 0 = RE := by rw [← HRE.out, if_pos (by rw [HA9.out]; exact hA)]
      go_wp2_with fail
      refine (string_any wb wb (modL m) _ HF.out (Nat.le_of_lt hwl.out)).mono ?_
      rintro en X10 ⟨rfl, b9, c9, _⟩
      have HE := Lib.hid (HBF.out.trans (c9.mono hwo.out))
      clear b9 c9
      go_wp2_with fail
      go_ret2
      exact ⟨rfl, HE.out⟩
    · have hgt : (1048576 : Int) < (A9 : Int) := by omega
      obtain rfl : bs [] = RS := by rw [← HRS.out, if_neg (by rw [HA9.out]; exact hA)]
      obtain rfl : 5 = RE := by rw [← HRE.out, if_neg (by rw [HA9.out]; exact hA)]
      go_wp2_with fail
      go_ret2
      exact ⟨rfl, HBF.out⟩
set_option maxRecDepth 100000 in
theorem enc_no (t f me g e : Value) (st : Int) (d : Value) (m : ModP) (w : World) (hE : MEnv w) (hM : ModAt w t f me g e st d m) (hr : rightM m = false) :
    Calls Tryz.prog 9 #[modV t f me g e st d] w fun en w' => en = .returned (.tuple #[.string ⟨#[]⟩, .int .i64 1]) ∧ Below w.heap.size w w' := by
  have B0 : Below w.heap.size w (w.alloc (.cells #[t, f, me, g, e, .int .i64 st, d] 29)) := (Below.refl _ _).alloc (Nat.le_refl _) _
  have hcall := rightM_any t f me g e st d m _ (hE.later B0) (hM.later B0)
  rw [hr] at hcall
  obtain ⟨ta, tc, rfl, _, _⟩ := hM.types.form
  obtain ⟨fa, fc, rfl, _, _⟩ := hM.funcs.form
  obtain ⟨ma, mc, rfl, _, _⟩ := hM.memory.form
  obtain ⟨ga, gc, rfl, _, _⟩ := hM.globals.form
  obtain ⟨ea, ec, rfl, _, _⟩ := hM.exports.form
  obtain ⟨da, dc, rfl, _, _⟩ := hM.data.form
  clear hE hM hr
  unfold modV at hcall ⊢
  go_enter Tryz.func9, Tryz.ntmps9
  go_wp2_with fail
  refine hcall.mono ?_
  rintro en w2 ⟨rfl, c2⟩
  go_wp2_with fail
  go_ret2
  exact ⟨rfl, B0.trans (c2.mono B0.size)⟩
/-- THE WRITER -/
theorem enc_any (t f me g e : Value) (st : Int) (d : Value) (m : ModP) (w : World) (hE : MEnv w) (hM : ModAt w t f me g e st d m) (hO : ModOk m) (hlen : rightM m = true → (modL m).length ≤ 140737488350000) :
    Calls Tryz.prog 9 #[modV t f me g e st d] w fun en w' => en = .returned (.tuple #[.string (bs (encM m).1), .int .i64 (encM m).2]) ∧ Below w.heap.size w w' := by
  unfold encM
  cases hr : rightM m with
  | false => exact enc_no t f me g e st d m w hE hM hr
  | true =>
    have h := enc_yes t f me g e st d m w hE hM (wok_of hO hr) hr (hlen hr)
    by_cases hA : (modL m).length ≤ 1048576
    · rw [if_pos hA, if_pos hA] at h
      rw [if_pos rfl, if_pos hA]
      exact h
    · rw [if_neg hA, if_neg hA] at h
      rw [if_pos rfl, if_neg hA]
      exact h
end Go.Proofs.YtofepnojhghnnaaGreatDoor.Enc

/- EncEx: What package enc's Instr answers; chapter 5's examples; what a made module is to the writer. No condition beyond what each theorem names. -/
namespace Go.Proofs.YtofepnojhghnnaaGreatDoor.Enc
open Go.RowKit Go.Maps Go.Proofs.YtofepnojhghnnaaGreatDoor.Op Go.Proofs.YtofepnojhghnnaaGreatDoor.Mod Go.Proofs.YtofepnojhghnnaaGreatDoor.Leb Go.Proofs.YtofepnojhghnnaaGreatDoor.Bytes Go.Proofs.YtofepnojhghnnaaGreatDoor.Pg
set_option linter.unusedVariables false
theorem right_known {x : InsL} (h : rightIns x = true) : (opInfo x.op).isSome = true := by
  unfold rightIns rightB at h
  split at h
  · cases h
  · rename_i i hi
    rw [hi]
    rfl
set_option maxRecDepth 100000 in
set_option maxHeartbeats 2000000 in
/-- Instr -/
theorem encI_any (x : InsL) (lv : Value) (w : World) (hE : OpEnv w) (hl : IntsAt w lv x.labels) (hop : (Lit.int .i64 x.op).wf = true) (ha : (Lit.int .i64 x.a).wf = true) :
    Calls Tryz.prog 11 #[.agg #[.int .i64 x.op, .int .i64 x.a, .int .i64 x.b, lv]] w fun e w' => e = .returned (.tuple #[.string (bs (encI x).1), .bool (encI x).2]) ∧ Below w.heap.size w w' := by
  obtain ⟨la, lc, rfl⟩ := intsAt_form hl
  have B1 : Below w.heap.size w (w.alloc (.cells #[.int .i64 x.op, .int .i64 x.a, .int .i64 x.b, .slice la x.labels.length lc] 33)) := (Below.refl _ _).alloc (Nat.le_refl _) _
  have hright := right_any x.op x.a x.b _ x.labels _ (opEnv_later hE B1) hop (intsAt_later hl B1)
  change Calls Tryz.prog 57 #[.agg #[.int .i64 x.op, .int .i64 x.a, .int .i64 x.b, .slice la x.labels.length lc]] _ (fun e w' => e = .returned (.bool (rightIns x)) ∧ _) at hright
  cases hr : rightIns x with
  | false =>
    rw [hr] at hright
    have HE := Lib.hid (show encI x = ([], false) by unfold encI; rw [hr, if_neg (by decide)])
    rw [HE.out]
    obtain ⟨op, a, b, zs⟩ := x
    dsimp only at hright ⊢
    clear hr hl hop ha HE
    have HR := Lib.hid hright
    clear hright
    go_enter Tryz.func11, Tryz.ntmps11
    go_wp2_with fail
    refine HR.out.mono ?_
    rintro e w2 ⟨rfl, c2⟩
    go_wp2_with fail
    go_ret2
    exact ⟨rfl, B1.trans (c2.mono B1.size)⟩
  | true =>
    rw [hr] at hright
    have HE := Lib.hid (show encI x = (insL x, true) by unfold encI; rw [hr, if_pos rfl])
    have hz := rightIns_len hr
    have HK := Lib.hid (right_known hr)
    have hic := fun (W : World) (hW : Below w.heap.size w W) => ins_code x la lc W (intsAt_later hl hW) ha (by omega)
    have hof := fun (W : World) (hW : Below w.heap.size w W) (i : Info) (hi : (opInfo x.op).getD zeroI = i) => of_any x.op W (opEnv_later hE hW) hop i true hi (right_known hr)
    obtain ⟨i, hi⟩ : ∃ i, (opInfo x.op).getD zeroI = i := ⟨_, rfl⟩
    replace hof := fun (W : World) (hW : Below w.heap.size w W) => hof W hW i hi
    rw [hi] at hic
    obtain ⟨nm, sh, ps, rs⟩ := i
    unfold Info.toV at hic hof
    dsimp only at hic hof
    rw [HE.out]
    obtain ⟨S, hS⟩ : ∃ S, bs (insL x) = S := ⟨_, rfl⟩
    rw [hS] at hic ⊢
    obtain ⟨op, a, b, zs⟩ := x
    dsimp only at hright hic hof ⊢
    have HR := Lib.hid hright
    have HIC := Lib.hid hic
    have HOF := Lib.hid hof
    obtain ⟨W1, hW1⟩ : ∃ W1, w.alloc (.cells #[.int .i64 op, .int .i64 a, .int .i64 b, .slice la zs.length lc] 33) = W1 := ⟨_, rfl⟩
    dsimp only at B1
    rw [hW1] at HR B1
    have y0 : W1.cell? ⟨w.heap.size, 0, none⟩ = some (.int .i64 op) := by rw [← hW1]; simp
    have y1 : W1.cell? ⟨w.heap.size, 1, none⟩ = some (.int .i64 a) := by rw [← hW1]; simp
    have y2 : W1.cell? ⟨w.heap.size, 2, none⟩ = some (.int .i64 b) := by rw [← hW1]; simp
    have y3 : W1.cell? ⟨w.heap.size, 3, none⟩ = some (.slice la zs.length lc) := by rw [← hW1]; simp
    have HW1 := Lib.hid hW1
    have HB1 := Lib.hid B1
    clear hr hl hop ha HE hright hic hof hi hS hz HK hE B1 hW1
    go_enter Tryz.func11, Tryz.ntmps11
    go_upto_region 1 with fail
    rw [HW1.out]
    go_wp2_with fail
    refine HR.out.mono ?_
    rintro e w2 ⟨rfl, c2⟩
    replace y0 := cell_later c2 y0
    replace y1 := cell_later c2 y1
    replace y2 := cell_later c2 y2
    replace y3 := cell_later c2 y3
    have HB2 := Lib.hid (HB1.out.trans (c2.mono HB1.out.size))
    clear c2
    go_wp2_with fail
    refine (HOF.out w2 HB2.out).mono ?_
    rintro e w3 ⟨rfl, c3⟩
    replace y0 := cell_later c3 y0
    replace y1 := cell_later c3 y1
    replace y2 := cell_later c3 y2
    replace y3 := cell_later c3 y3
    have HB3 := Lib.hid (HB2.out.trans (c3.mono HB2.out.size))
    clear c3
    go_upto_region 4 with fail
    obtain ⟨W4, hW4⟩ : ∃ W4, w3.alloc (.cells #[.string nm, .int .i64 sh, .string ps, .string rs] 79) = W4 := ⟨_, rfl⟩
    have BX : Below w3.heap.size w3 W4 := by rw [← hW4]; exact (Below.refl _ _).alloc (Nat.le_refl _) _
    have hrow : W4.heap[w3.heap.size]? = some (.cells #[.string nm, .int .i64 sh, .string ps, .string rs] 79 (0, 0)) := by rw [← hW4]; exact heap_alloc_new _ _
    rw [hW4]
    replace y0 := cell_later BX y0
    replace y1 := cell_later BX y1
    replace y2 := cell_later BX y2
    replace y3 := cell_later BX y3
    have i0 := cell_of_row W4 _ 0 _ _ _ hrow
    have i1 := cell_of_row W4 _ 1 _ _ _ hrow
    have i2 := cell_of_row W4 _ 2 _ _ _ hrow
    have i3 := cell_of_row W4 _ 3 _ _ _ hrow
    have HB4 := Lib.hid (HB3.out.trans (BX.mono HB3.out.size))
    clear hW4 BX hrow
    go_wp2_with fail
    refine (HIC.out W4 HB4.out).mono ?_
    rintro e w5 ⟨rfl, c5⟩
    have HB5 := Lib.hid (HB4.out.trans (c5.mono HB4.out.size))
    clear c5
    go_wp2_with fail
    go_ret2
    exact ⟨rfl, HB5.out⟩
/-- the writer, of a module of one's own -/
theorem enc_own (t f me g e : Value) (st : Int) (d : Value) (m : ModP) (w : World) (hE : MEnv w) (hM : ModAt w t f me g e st d m) (hO : rightM m = true → WOk m) (hlen : rightM m = true → (modL m).length ≤ 140737488350000) :
    Calls Tryz.prog 9 #[modV t f me g e st d] w fun en w' => en = .returned (.tuple #[.string (bs (encM m).1), .int .i64 (encM m).2]) ∧ Below w.heap.size w w' := by
  unfold encM
  cases hr : rightM m with
  | false => exact enc_no t f me g e st d m w hE hM hr
  | true =>
    have h := enc_yes t f me g e st d m w hE hM (hO hr) hr (hlen hr)
    by_cases hA : (modL m).length ≤ 1048576
    · rw [if_pos hA, if_pos hA] at h
      rw [if_pos rfl, if_pos hA]
      exact h
    · rw [if_neg hA, if_neg hA] at h
      rw [if_pos rfl, if_neg hA]
      exact h
def mod0 (st : Int) : ModP := ⟨[], [], [], [], [], st, []⟩
theorem list_nil {α : Type} {size : Nat} {R : World → List Value → α → Prop} (w : World) : ListAt size R w (.slice none 0 0) [] := ListAt.mk (l := ([] : List α)) (Nat.zero_le _) (fun i x hi => by cases i <;> cases hi)
theorem mod0_at (w : World) (st : Int) : ModAt w (.slice none 0 0) (.slice none 0 0) (.slice none 0 0) (.slice none 0 0) (.slice none 0 0) st (.slice none 0 0) (mod0 st) := ⟨list_nil w, list_nil w, list_nil w, list_nil w, list_nil w, rfl, list_nil w⟩
theorem mod0_ok (st : Int) : WOk (mod0 st) := ⟨fun _ h => (by cases h), fun _ h => (by cases h), fun _ h => (by cases h), fun _ h => (by cases h), fun _ h => (by cases h), fun _ h => (by cases h), fun _ h => (by cases h), by show 0 < _; decide⟩
theorem enc0 : encM (mod0 (-1)) = (magicL, 0) := by kernel_rfl
theorem enc0' : encM (mod0 (-2)) = ([], 1) := by kernel_rfl
theorem encI0 : encI ⟨65, -1, 0, []⟩ = ([65, 127], true) := by kernel_rfl
set_option maxRecDepth 100000 in
set_option maxHeartbeats 2000000 in
theorem examples05 (w : World) (hE : MEnv w) : Calls Tryz.prog 7 #[] w fun e w' => e = .returned (.bool true) ∧ Below w.heap.size w w' := by
  have h1 := enc_own _ _ _ _ _ _ _ _ w hE (mod0_at w (-1)) (fun _ => mod0_ok _) (fun _ => by decide)
  rw [enc0] at h1
  have h2 := fun (W : World) (hW : Below w.heap.size w W) => encI_any ⟨65, -1, 0, []⟩ (.slice none 0 0) W (hE.later hW).op (.inl ⟨rfl, rfl⟩) (by decide) (by decide)
  rw [encI0] at h2
  have h3 := fun (W : World) (hW : Below w.heap.size w W) => enc_own _ _ _ _ _ _ _ _ W (hE.later hW) (mod0_at W (-2)) (fun _ => mod0_ok _) (fun _ => by decide)
  rw [enc0'] at h3
  have H1 := Lib.hid h1
  have H2 := Lib.hid h2
  have H3 := Lib.hid h3
  clear h1 h2 h3 hE
  go_enter Tryz.func7, Tryz.ntmps7
  go_wp2_with fail
  refine H1.out.mono ?_
  rintro e w1 ⟨rfl, c1⟩
  have C1 := Lib.hid c1
  clear c1
  go_wp2_with fail
  refine (H2.out w1 C1.out).mono ?_
  rintro e w2 ⟨rfl, c2⟩
  have C2 := Lib.hid (C1.out.trans (c2.mono C1.out.size))
  clear c2
  go_wp2_with fail
  refine (H3.out w2 C2.out).mono ?_
  rintro e w3 ⟨rfl, c3⟩
  have C3 := Lib.hid (C2.out.trans (c3.mono C2.out.size))
  clear c3
  rw [show bs magicL = ⟨#[0, 97, 115, 109, 1, 0, 0, 0]⟩ from rfl, show bs ([65, 127] : List UInt8) = ⟨#[65, 127]⟩ from rfl]
  go_wp2_with fail
  go_ret
  exact ⟨rfl, C3.out⟩
end Go.Proofs.YtofepnojhghnnaaGreatDoor.Enc
