/-
  What package module's all, and slices.ContainsFunc, slices.IndexFunc, answer of a slice of structs. No condition beyond what each theorem names.
-/
import Derived.Test.YtmbgemcddjailaaGreatDoorModDefs
import Derived.Deep.LoopGhost
namespace Go.Proofs.YtmbgemcddjailaaGreatDoor.Mod
open Go.RowKit Go.Maps Go.Proofs.YtmbgemcddjailaaGreatDoor.Op
set_option linter.unusedVariables false
set_option maxRecDepth 100000 in
set_option maxHeartbeats 2000000 in
theorem idx_ft (la : Option Addr) (c : Nat) (rows : List (List Value)) (p : Nat → Bool) (g : Nat) (lb : Array Value) (eg : ∀ args w, (callFunc g args).run Tryz.prog w = .ok (.enter g args) w) (w : World)
    (hrow : RowAt w 2 (.slice la rows.length c) rows) (hp : PredRow g lb rows p w) :
    Calls Tryz.prog 124 #[.slice la rows.length c, .func (.func g) #[] lb] w fun e w' => e = .returned (.int .i64 (idxN p rows.length)) ∧ Below w.heap.size w w' := by
  obtain ⟨la', c', hv, hle, hr⟩ := hrow
  obtain ⟨rfl, rfl⟩ : la = la' ∧ c = c' := by simp only [Value.slice.injEq] at hv; exact ⟨hv.1, hv.2.2⟩
  have HR := Lib.hid hr
  have HP := Lib.hid hp
  clear hr hp hv
  go_enter Tryz.func124, Tryz.ntmps124
  go_wp2_with fail
  go_loopg [5, 8] rows.length (fun gk _ s8 wr => ∃ k : Nat, k ≤ rows.length ∧ rows.length - k ≤ gk ∧ s8 = .int .i64 k ∧ Below w.heap.size w wr ∧ Hid (∀ j, j < k → p j = false))
  case atStart => exact ⟨0, Nat.zero_le _, by omega, rfl, Below.refl _ w, Lib.hid fun j hj => absurd hj (Nat.not_lt_zero _)⟩
  case round =>
    obtain ⟨k, hk, hg, rfl, hB, HA⟩ := hrel
    by_cases hlt : k < rows.length
    · obtain ⟨r, hrk⟩ : ∃ r, rows[k]? = some r := ⟨_, List.getElem?_eq_getElem hlt⟩
      obtain ⟨hlen, b, off, rfl, hb, hcell⟩ := HR.out k r hrk
      obtain ⟨c0, c1, rfl⟩ := two hlen
      have x0 : wr.cell? ⟨b, off + k * 2, none⟩ = some c0 := (hB.cell (p := ⟨b, off + k * 2 + 0, none⟩) hb).trans (hcell 0 _ rfl)
      have x1 : wr.cell? ⟨b, off + k * 2 + 1, none⟩ = some c1 := (hB.cell (p := ⟨b, off + k * 2 + 1, none⟩) hb).trans (hcell 1 _ rfl)
      have hcall := HP.out wr k _ hrk hB
      have hltz : (k : Int) < (rows.length : Int) := by omega
      have HB := Lib.hid hB
      clear hcell hrk hlen hB
      cases hq : p k with
      | true =>
        rw [hq] at hcall
        have HQ := Lib.hid hq
        clear hq
        go_wp2_with (go_at_fn g; refine hcall.mono ?_; rintro e w' ⟨rfl, hb'⟩)
        go_ret
        exact ⟨by rw [idxN_hit hlt HQ.out HA.out]; rfl, HB.out.trans (hb'.mono HB.out.size)⟩
      | false =>
        rw [hq] at hcall
        have HQ := Lib.hid hq
        clear hq
        go_wp2_with (go_at_fn g; refine hcall.mono ?_; rintro e w' ⟨rfl, hb'⟩)
        go_roundg (rows.length - (k + 1))
        case measure => omega
        case rel => exact ⟨k + 1, by omega, by omega, by go_num, HB.out.trans (hb'.mono HB.out.size), Lib.hid fun j hj => by rcases (show j < k ∨ j = k by omega) with h9 | rfl; exact HA.out j h9; exact HQ.out⟩
    · have hltz : ¬ (k : Int) < (rows.length : Int) := by omega
      obtain rfl : k = rows.length := by omega
      have HB := Lib.hid hB
      clear hB
      go_wp2_with fail
      go_ret
      exact ⟨by rw [idxN_miss HA.out]; rfl, HB.out⟩
set_option maxRecDepth 100000 in
theorem cont_ft (la : Option Addr) (c : Nat) (rows : List (List Value)) (p : Nat → Bool) (g : Nat) (lb : Array Value) (eg : ∀ args w, (callFunc g args).run Tryz.prog w = .ok (.enter g args) w) (w : World)
    (hrow : RowAt w 2 (.slice la rows.length c) rows) (hp : PredRow g lb rows p w) :
    Calls Tryz.prog 87 #[.slice la rows.length c, .func (.func g) #[] lb] w fun e w' => e = .returned (.bool (anyN p rows.length)) ∧ Below w.heap.size w w' := by
  rw [anyN_iff]
  have hcall := idx_ft la c rows p g lb eg w hrow hp
  obtain ⟨R, hR⟩ : ∃ R, idxN p rows.length = R := ⟨_, rfl⟩
  rw [hR] at hcall ⊢
  clear hR hp hrow
  go_enter Tryz.func87, Tryz.ntmps87
  go_wp2_with (go_at_call 124; refine hcall.mono ?_; rintro e w' ⟨rfl, hb'⟩)
  go_ret
  exact ⟨rfl, hb'⟩
set_option maxRecDepth 100000 in
set_option maxHeartbeats 1000000 in
theorem not_ft (rows : List (List Value)) (q : Nat → Bool) (g : Nat) (eg : ∀ args w, (callFunc g args).run Tryz.prog w = .ok (.enter g args) w) (B : Nat) (w : World) (hlen : ∀ (j : Nat) (r : List Value), rows[j]? = some r → r.length = 2) (hB : B < w.heap.size) (hc : w.cell? ⟨B, 0, none⟩ = some (.func (.func g) #[] #[])) (hp : PredRow g #[] rows q w) :
    PredRow 88 #[.pointer (some ⟨B, 0, none⟩)] rows (fun j => !q j) w := fun W j r hr hb => by
  have hc' : W.cell? ⟨B, 0, none⟩ = some (.func (.func g) #[] #[]) := (hb.cell (p := ⟨B, 0, none⟩) hB).trans hc
  have hBW : B < W.heap.size := Nat.lt_of_lt_of_le hB hb.size
  obtain ⟨c0, c1, rfl⟩ := two (hlen j r hr)
  have hcall := hp (W.alloc (.cells #[c0, c1] 25)) j _ hr (hb.alloc hb.size _)
  have hBW2 : B < (W.alloc (.cells #[c0, c1] 25)).heap.size := by simp; omega
  show Calls Tryz.prog 88 #[.agg #[c0, c1], .pointer (some ⟨B, 0, none⟩)] W fun e w' => e = .returned (.bool (!q j)) ∧ Below W.heap.size W w'
  obtain ⟨Q, hQ⟩ : ∃ Q, q j = Q := ⟨_, rfl⟩
  rw [hQ] at hcall ⊢
  have hne : B ≠ W.heap.size := by omega
  clear hQ hp hr
  change Calls Tryz.prog g #[.agg #[c0, c1]] _ _ at hcall
  go_enter Tryz.func88, Tryz.ntmps88
  go_wp2_with (go_at_fn g; refine hcall.mono ?_; rintro e w' ⟨rfl, hb'⟩)
  go_ret
  exact ⟨rfl, ((Below.refl _ _).alloc (Nat.le_refl _) _).trans (hb'.mono (by simp))⟩
set_option maxRecDepth 100000 in
set_option maxHeartbeats 1000000 in
theorem all_ft (la : Option Addr) (c : Nat) (rows : List (List Value)) (q : Nat → Bool) (g : Nat) (eg : ∀ args w, (callFunc g args).run Tryz.prog w = .ok (.enter g args) w) (w : World)
    (hrow : RowAt w 2 (.slice la rows.length c) rows) (hp : PredRow g #[] rows q w) :
    Calls Tryz.prog 56 #[.slice la rows.length c, .func (.func g) #[] #[]] w fun e w' => e = .returned (.bool (decide (rows.length ≤ 4096) && !anyN (fun j => !q j) rows.length)) ∧ Below w.heap.size w w' := by
  have ea : ∀ args w, (callFunc 88 args).run Tryz.prog w = .ok (.enter 88 args) w := enters_of Tryz.func88 (by kernel_rfl) rfl
  have hB1 : Below w.heap.size w (w.alloc (.cells #[.func (.func g) #[] #[]] 135)) := (Below.refl _ _).alloc (Nat.le_refl _) _
  by_cases hle : rows.length ≤ 4096
  · have hcall := cont_ft la c rows (fun j => !q j) 88 #[.pointer (some ⟨w.heap.size, 0, none⟩)] ea (w.alloc (.cells #[.func (.func g) #[] #[]] 135)) (hrow.later hB1)
      (not_ft rows q g eg w.heap.size _ (fun j r hr => by obtain ⟨_, _, _, _, h⟩ := hrow; exact (h j r hr).1) (by simp) (by simp) (hp.rebase hB1))
    obtain ⟨Q, hQ⟩ : ∃ Q, anyN (fun j => !q j) rows.length = Q := ⟨_, rfl⟩
    rw [hQ] at hcall ⊢
    have hd : decide (rows.length ≤ 4096) = true := decide_eq_true hle
    rw [hd]
    clear hQ hp hrow
    go_enter Tryz.func56, Tryz.ntmps56
    go_wp2_with (go_at_call 87; refine hcall.mono ?_; rintro e w' ⟨rfl, hb'⟩)
    go_ret
    exact ⟨rfl, hB1.trans (hb'.mono (by simp))⟩
  · have hd : decide (rows.length ≤ 4096) = false := decide_eq_false hle
    rw [hd]
    clear hp hrow
    go_enter Tryz.func56, Tryz.ntmps56
    go_wp2_with fail
    go_ret
    exact ⟨rfl, hB1⟩
set_option maxRecDepth 100000 in
set_option maxHeartbeats 2000000 in
theorem idx_func (la : Option Addr) (c : Nat) (rows : List (List Value)) (p : Nat → Bool) (g : Nat) (lb : Array Value) (eg : ∀ args w, (callFunc g args).run Tryz.prog w = .ok (.enter g args) w) (w : World)
    (hrow : RowAt w 3 (.slice la rows.length c) rows) (hp : PredRow g lb rows p w) :
    Calls Tryz.prog 132 #[.slice la rows.length c, .func (.func g) #[] lb] w fun e w' => e = .returned (.int .i64 (idxN p rows.length)) ∧ Below w.heap.size w w' := by
  obtain ⟨la', c', hv, hle, hr⟩ := hrow
  obtain ⟨rfl, rfl⟩ : la = la' ∧ c = c' := by simp only [Value.slice.injEq] at hv; exact ⟨hv.1, hv.2.2⟩
  have HR := Lib.hid hr
  have HP := Lib.hid hp
  clear hr hp hv
  go_enter Tryz.func132, Tryz.ntmps132
  go_wp2_with fail
  go_loopg [5, 8] rows.length (fun gk _ s8 wr => ∃ k : Nat, k ≤ rows.length ∧ rows.length - k ≤ gk ∧ s8 = .int .i64 k ∧ Below w.heap.size w wr ∧ Hid (∀ j, j < k → p j = false))
  case atStart => exact ⟨0, Nat.zero_le _, by omega, rfl, Below.refl _ w, Lib.hid fun j hj => absurd hj (Nat.not_lt_zero _)⟩
  case round =>
    obtain ⟨k, hk, hg, rfl, hB, HA⟩ := hrel
    by_cases hlt : k < rows.length
    · obtain ⟨r, hrk⟩ : ∃ r, rows[k]? = some r := ⟨_, List.getElem?_eq_getElem hlt⟩
      obtain ⟨hlen, b, off, rfl, hb, hcell⟩ := HR.out k r hrk
      obtain ⟨c0, c1, c2, rfl⟩ := three hlen
      have x0 : wr.cell? ⟨b, off + k * 3, none⟩ = some c0 := (hB.cell (p := ⟨b, off + k * 3 + 0, none⟩) hb).trans (hcell 0 _ rfl)
      have x1 : wr.cell? ⟨b, off + k * 3 + 1, none⟩ = some c1 := (hB.cell (p := ⟨b, off + k * 3 + 1, none⟩) hb).trans (hcell 1 _ rfl)
      have x2 : wr.cell? ⟨b, off + k * 3 + 2, none⟩ = some c2 := (hB.cell (p := ⟨b, off + k * 3 + 2, none⟩) hb).trans (hcell 2 _ rfl)
      have hcall := HP.out wr k _ hrk hB
      have hltz : (k : Int) < (rows.length : Int) := by omega
      have HB := Lib.hid hB
      clear hcell hrk hlen hB
      cases hq : p k with
      | true =>
        rw [hq] at hcall
        have HQ := Lib.hid hq
        clear hq
        go_wp2_with (go_at_fn g; refine hcall.mono ?_; rintro e w' ⟨rfl, hb'⟩)
        go_ret
        exact ⟨by rw [idxN_hit hlt HQ.out HA.out]; rfl, HB.out.trans (hb'.mono HB.out.size)⟩
      | false =>
        rw [hq] at hcall
        have HQ := Lib.hid hq
        clear hq
        go_wp2_with (go_at_fn g; refine hcall.mono ?_; rintro e w' ⟨rfl, hb'⟩)
        go_roundg (rows.length - (k + 1))
        case measure => omega
        case rel => exact ⟨k + 1, by omega, by omega, by go_num, HB.out.trans (hb'.mono HB.out.size), Lib.hid fun j hj => by rcases (show j < k ∨ j = k by omega) with h9 | rfl; exact HA.out j h9; exact HQ.out⟩
    · have hltz : ¬ (k : Int) < (rows.length : Int) := by omega
      obtain rfl : k = rows.length := by omega
      have HB := Lib.hid hB
      clear hB
      go_wp2_with fail
      go_ret
      exact ⟨by rw [idxN_miss HA.out]; rfl, HB.out⟩
set_option maxRecDepth 100000 in
theorem cont_func (la : Option Addr) (c : Nat) (rows : List (List Value)) (p : Nat → Bool) (g : Nat) (lb : Array Value) (eg : ∀ args w, (callFunc g args).run Tryz.prog w = .ok (.enter g args) w) (w : World)
    (hrow : RowAt w 3 (.slice la rows.length c) rows) (hp : PredRow g lb rows p w) :
    Calls Tryz.prog 90 #[.slice la rows.length c, .func (.func g) #[] lb] w fun e w' => e = .returned (.bool (anyN p rows.length)) ∧ Below w.heap.size w w' := by
  rw [anyN_iff]
  have hcall := idx_func la c rows p g lb eg w hrow hp
  obtain ⟨R, hR⟩ : ∃ R, idxN p rows.length = R := ⟨_, rfl⟩
  rw [hR] at hcall ⊢
  clear hR hp hrow
  go_enter Tryz.func90, Tryz.ntmps90
  go_wp2_with (go_at_call 132; refine hcall.mono ?_; rintro e w' ⟨rfl, hb'⟩)
  go_ret
  exact ⟨rfl, hb'⟩
set_option maxRecDepth 100000 in
set_option maxHeartbeats 1000000 in
theorem not_func (rows : List (List Value)) (q : Nat → Bool) (g : Nat) (eg : ∀ args w, (callFunc g args).run Tryz.prog w = .ok (.enter g args) w) (B : Nat) (w : World) (hlen : ∀ (j : Nat) (r : List Value), rows[j]? = some r → r.length = 3) (hB : B < w.heap.size) (hc : w.cell? ⟨B, 0, none⟩ = some (.func (.func g) #[] #[])) (hp : PredRow g #[] rows q w) :
    PredRow 91 #[.pointer (some ⟨B, 0, none⟩)] rows (fun j => !q j) w := fun W j r hr hb => by
  have hc' : W.cell? ⟨B, 0, none⟩ = some (.func (.func g) #[] #[]) := (hb.cell (p := ⟨B, 0, none⟩) hB).trans hc
  have hBW : B < W.heap.size := Nat.lt_of_lt_of_le hB hb.size
  obtain ⟨c0, c1, c2, rfl⟩ := three (hlen j r hr)
  have hcall := hp (W.alloc (.cells #[c0, c1, c2] 32)) j _ hr (hb.alloc hb.size _)
  have hBW2 : B < (W.alloc (.cells #[c0, c1, c2] 32)).heap.size := by simp; omega
  show Calls Tryz.prog 91 #[.agg #[c0, c1, c2], .pointer (some ⟨B, 0, none⟩)] W fun e w' => e = .returned (.bool (!q j)) ∧ Below W.heap.size W w'
  obtain ⟨Q, hQ⟩ : ∃ Q, q j = Q := ⟨_, rfl⟩
  rw [hQ] at hcall ⊢
  have hne : B ≠ W.heap.size := by omega
  clear hQ hp hr
  change Calls Tryz.prog g #[.agg #[c0, c1, c2]] _ _ at hcall
  go_enter Tryz.func91, Tryz.ntmps91
  go_wp2_with (go_at_fn g; refine hcall.mono ?_; rintro e w' ⟨rfl, hb'⟩)
  go_ret
  exact ⟨rfl, ((Below.refl _ _).alloc (Nat.le_refl _) _).trans (hb'.mono (by simp))⟩
set_option maxRecDepth 100000 in
set_option maxHeartbeats 1000000 in
theorem all_func (la : Option Addr) (c : Nat) (rows : List (List Value)) (q : Nat → Bool) (g : Nat) (eg : ∀ args w, (callFunc g args).run Tryz.prog w = .ok (.enter g args) w) (w : World)
    (hrow : RowAt w 3 (.slice la rows.length c) rows) (hp : PredRow g #[] rows q w) :
    Calls Tryz.prog 59 #[.slice la rows.length c, .func (.func g) #[] #[]] w fun e w' => e = .returned (.bool (decide (rows.length ≤ 4096) && !anyN (fun j => !q j) rows.length)) ∧ Below w.heap.size w w' := by
  have ea : ∀ args w, (callFunc 91 args).run Tryz.prog w = .ok (.enter 91 args) w := enters_of Tryz.func91 (by kernel_rfl) rfl
  have hB1 : Below w.heap.size w (w.alloc (.cells #[.func (.func g) #[] #[]] 140)) := (Below.refl _ _).alloc (Nat.le_refl _) _
  by_cases hle : rows.length ≤ 4096
  · have hcall := cont_func la c rows (fun j => !q j) 91 #[.pointer (some ⟨w.heap.size, 0, none⟩)] ea (w.alloc (.cells #[.func (.func g) #[] #[]] 140)) (hrow.later hB1)
      (not_func rows q g eg w.heap.size _ (fun j r hr => by obtain ⟨_, _, _, _, h⟩ := hrow; exact (h j r hr).1) (by simp) (by simp) (hp.rebase hB1))
    obtain ⟨Q, hQ⟩ : ∃ Q, anyN (fun j => !q j) rows.length = Q := ⟨_, rfl⟩
    rw [hQ] at hcall ⊢
    have hd : decide (rows.length ≤ 4096) = true := decide_eq_true hle
    rw [hd]
    clear hQ hp hrow
    go_enter Tryz.func59, Tryz.ntmps59
    go_wp2_with (go_at_call 90; refine hcall.mono ?_; rintro e w' ⟨rfl, hb'⟩)
    go_ret
    exact ⟨rfl, hB1.trans (hb'.mono (by simp))⟩
  · have hd : decide (rows.length ≤ 4096) = false := decide_eq_false hle
    rw [hd]
    clear hp hrow
    go_enter Tryz.func59, Tryz.ntmps59
    go_wp2_with fail
    go_ret
    exact ⟨rfl, hB1⟩
set_option maxRecDepth 100000 in
set_option maxHeartbeats 2000000 in
theorem idx_mem (la : Option Addr) (c : Nat) (rows : List (List Value)) (p : Nat → Bool) (g : Nat) (lb : Array Value) (eg : ∀ args w, (callFunc g args).run Tryz.prog w = .ok (.enter g args) w) (w : World)
    (hrow : RowAt w 2 (.slice la rows.length c) rows) (hp : PredRow g lb rows p w) :
    Calls Tryz.prog 134 #[.slice la rows.length c, .func (.func g) #[] lb] w fun e w' => e = .returned (.int .i64 (idxN p rows.length)) ∧ Below w.heap.size w w' := by
  obtain ⟨la', c', hv, hle, hr⟩ := hrow
  obtain ⟨rfl, rfl⟩ : la = la' ∧ c = c' := by simp only [Value.slice.injEq] at hv; exact ⟨hv.1, hv.2.2⟩
  have HR := Lib.hid hr
  have HP := Lib.hid hp
  clear hr hp hv
  go_enter Tryz.func134, Tryz.ntmps134
  go_wp2_with fail
  go_loopg [5, 8] rows.length (fun gk _ s8 wr => ∃ k : Nat, k ≤ rows.length ∧ rows.length - k ≤ gk ∧ s8 = .int .i64 k ∧ Below w.heap.size w wr ∧ Hid (∀ j, j < k → p j = false))
  case atStart => exact ⟨0, Nat.zero_le _, by omega, rfl, Below.refl _ w, Lib.hid fun j hj => absurd hj (Nat.not_lt_zero _)⟩
  case round =>
    obtain ⟨k, hk, hg, rfl, hB, HA⟩ := hrel
    by_cases hlt : k < rows.length
    · obtain ⟨r, hrk⟩ : ∃ r, rows[k]? = some r := ⟨_, List.getElem?_eq_getElem hlt⟩
      obtain ⟨hlen, b, off, rfl, hb, hcell⟩ := HR.out k r hrk
      obtain ⟨c0, c1, rfl⟩ := two hlen
      have x0 : wr.cell? ⟨b, off + k * 2, none⟩ = some c0 := (hB.cell (p := ⟨b, off + k * 2 + 0, none⟩) hb).trans (hcell 0 _ rfl)
      have x1 : wr.cell? ⟨b, off + k * 2 + 1, none⟩ = some c1 := (hB.cell (p := ⟨b, off + k * 2 + 1, none⟩) hb).trans (hcell 1 _ rfl)
      have hcall := HP.out wr k _ hrk hB
      have hltz : (k : Int) < (rows.length : Int) := by omega
      have HB := Lib.hid hB
      clear hcell hrk hlen hB
      cases hq : p k with
      | true =>
        rw [hq] at hcall
        have HQ := Lib.hid hq
        clear hq
        go_wp2_with (go_at_fn g; refine hcall.mono ?_; rintro e w' ⟨rfl, hb'⟩)
        go_ret
        exact ⟨by rw [idxN_hit hlt HQ.out HA.out]; rfl, HB.out.trans (hb'.mono HB.out.size)⟩
      | false =>
        rw [hq] at hcall
        have HQ := Lib.hid hq
        clear hq
        go_wp2_with (go_at_fn g; refine hcall.mono ?_; rintro e w' ⟨rfl, hb'⟩)
        go_roundg (rows.length - (k + 1))
        case measure => omega
        case rel => exact ⟨k + 1, by omega, by omega, by go_num, HB.out.trans (hb'.mono HB.out.size), Lib.hid fun j hj => by rcases (show j < k ∨ j = k by omega) with h9 | rfl; exact HA.out j h9; exact HQ.out⟩
    · have hltz : ¬ (k : Int) < (rows.length : Int) := by omega
      obtain rfl : k = rows.length := by omega
      have HB := Lib.hid hB
      clear hB
      go_wp2_with fail
      go_ret
      exact ⟨by rw [idxN_miss HA.out]; rfl, HB.out⟩
set_option maxRecDepth 100000 in
theorem cont_mem (la : Option Addr) (c : Nat) (rows : List (List Value)) (p : Nat → Bool) (g : Nat) (lb : Array Value) (eg : ∀ args w, (callFunc g args).run Tryz.prog w = .ok (.enter g args) w) (w : World)
    (hrow : RowAt w 2 (.slice la rows.length c) rows) (hp : PredRow g lb rows p w) :
    Calls Tryz.prog 95 #[.slice la rows.length c, .func (.func g) #[] lb] w fun e w' => e = .returned (.bool (anyN p rows.length)) ∧ Below w.heap.size w w' := by
  rw [anyN_iff]
  have hcall := idx_mem la c rows p g lb eg w hrow hp
  obtain ⟨R, hR⟩ : ∃ R, idxN p rows.length = R := ⟨_, rfl⟩
  rw [hR] at hcall ⊢
  clear hR hp hrow
  go_enter Tryz.func95, Tryz.ntmps95
  go_wp2_with (go_at_call 134; refine hcall.mono ?_; rintro e w' ⟨rfl, hb'⟩)
  go_ret
  exact ⟨rfl, hb'⟩
set_option maxRecDepth 100000 in
set_option maxHeartbeats 1000000 in
theorem not_mem (rows : List (List Value)) (q : Nat → Bool) (g : Nat) (eg : ∀ args w, (callFunc g args).run Tryz.prog w = .ok (.enter g args) w) (B : Nat) (w : World) (hlen : ∀ (j : Nat) (r : List Value), rows[j]? = some r → r.length = 2) (hB : B < w.heap.size) (hc : w.cell? ⟨B, 0, none⟩ = some (.func (.func g) #[] #[])) (hp : PredRow g #[] rows q w) :
    PredRow 96 #[.pointer (some ⟨B, 0, none⟩)] rows (fun j => !q j) w := fun W j r hr hb => by
  have hc' : W.cell? ⟨B, 0, none⟩ = some (.func (.func g) #[] #[]) := (hb.cell (p := ⟨B, 0, none⟩) hB).trans hc
  have hBW : B < W.heap.size := Nat.lt_of_lt_of_le hB hb.size
  obtain ⟨c0, c1, rfl⟩ := two (hlen j r hr)
  have hcall := hp (W.alloc (.cells #[c0, c1] 55)) j _ hr (hb.alloc hb.size _)
  have hBW2 : B < (W.alloc (.cells #[c0, c1] 55)).heap.size := by simp; omega
  show Calls Tryz.prog 96 #[.agg #[c0, c1], .pointer (some ⟨B, 0, none⟩)] W fun e w' => e = .returned (.bool (!q j)) ∧ Below W.heap.size W w'
  obtain ⟨Q, hQ⟩ : ∃ Q, q j = Q := ⟨_, rfl⟩
  rw [hQ] at hcall ⊢
  have hne : B ≠ W.heap.size := by omega
  clear hQ hp hr
  change Calls Tryz.prog g #[.agg #[c0, c1]] _ _ at hcall
  go_enter Tryz.func96, Tryz.ntmps96
  go_wp2_with (go_at_fn g; refine hcall.mono ?_; rintro e w' ⟨rfl, hb'⟩)
  go_ret
  exact ⟨rfl, ((Below.refl _ _).alloc (Nat.le_refl _) _).trans (hb'.mono (by simp))⟩
set_option maxRecDepth 100000 in
set_option maxHeartbeats 1000000 in
theorem all_mem (la : Option Addr) (c : Nat) (rows : List (List Value)) (q : Nat → Bool) (g : Nat) (eg : ∀ args w, (callFunc g args).run Tryz.prog w = .ok (.enter g args) w) (w : World)
    (hrow : RowAt w 2 (.slice la rows.length c) rows) (hp : PredRow g #[] rows q w) :
    Calls Tryz.prog 65 #[.slice la rows.length c, .func (.func g) #[] #[]] w fun e w' => e = .returned (.bool (decide (rows.length ≤ 4096) && !anyN (fun j => !q j) rows.length)) ∧ Below w.heap.size w w' := by
  have ea : ∀ args w, (callFunc 96 args).run Tryz.prog w = .ok (.enter 96 args) w := enters_of Tryz.func96 (by kernel_rfl) rfl
  have hB1 : Below w.heap.size w (w.alloc (.cells #[.func (.func g) #[] #[]] 142)) := (Below.refl _ _).alloc (Nat.le_refl _) _
  by_cases hle : rows.length ≤ 4096
  · have hcall := cont_mem la c rows (fun j => !q j) 96 #[.pointer (some ⟨w.heap.size, 0, none⟩)] ea (w.alloc (.cells #[.func (.func g) #[] #[]] 142)) (hrow.later hB1)
      (not_mem rows q g eg w.heap.size _ (fun j r hr => by obtain ⟨_, _, _, _, h⟩ := hrow; exact (h j r hr).1) (by simp) (by simp) (hp.rebase hB1))
    obtain ⟨Q, hQ⟩ : ∃ Q, anyN (fun j => !q j) rows.length = Q := ⟨_, rfl⟩
    rw [hQ] at hcall ⊢
    have hd : decide (rows.length ≤ 4096) = true := decide_eq_true hle
    rw [hd]
    clear hQ hp hrow
    go_enter Tryz.func65, Tryz.ntmps65
    go_wp2_with (go_at_call 95; refine hcall.mono ?_; rintro e w' ⟨rfl, hb'⟩)
    go_ret
    exact ⟨rfl, hB1.trans (hb'.mono (by simp))⟩
  · have hd : decide (rows.length ≤ 4096) = false := decide_eq_false hle
    rw [hd]
    clear hp hrow
    go_enter Tryz.func65, Tryz.ntmps65
    go_wp2_with fail
    go_ret
    exact ⟨rfl, hB1⟩
set_option maxRecDepth 100000 in
set_option maxHeartbeats 2000000 in
theorem idx_glob (la : Option Addr) (c : Nat) (rows : List (List Value)) (p : Nat → Bool) (g : Nat) (lb : Array Value) (eg : ∀ args w, (callFunc g args).run Tryz.prog w = .ok (.enter g args) w) (w : World)
    (hrow : RowAt w 3 (.slice la rows.length c) rows) (hp : PredRow g lb rows p w) :
    Calls Tryz.prog 135 #[.slice la rows.length c, .func (.func g) #[] lb] w fun e w' => e = .returned (.int .i64 (idxN p rows.length)) ∧ Below w.heap.size w w' := by
  obtain ⟨la', c', hv, hle, hr⟩ := hrow
  obtain ⟨rfl, rfl⟩ : la = la' ∧ c = c' := by simp only [Value.slice.injEq] at hv; exact ⟨hv.1, hv.2.2⟩
  have HR := Lib.hid hr
  have HP := Lib.hid hp
  clear hr hp hv
  go_enter Tryz.func135, Tryz.ntmps135
  go_wp2_with fail
  go_loopg [5, 8] rows.length (fun gk _ s8 wr => ∃ k : Nat, k ≤ rows.length ∧ rows.length - k ≤ gk ∧ s8 = .int .i64 k ∧ Below w.heap.size w wr ∧ Hid (∀ j, j < k → p j = false))
  case atStart => exact ⟨0, Nat.zero_le _, by omega, rfl, Below.refl _ w, Lib.hid fun j hj => absurd hj (Nat.not_lt_zero _)⟩
  case round =>
    obtain ⟨k, hk, hg, rfl, hB, HA⟩ := hrel
    by_cases hlt : k < rows.length
    · obtain ⟨r, hrk⟩ : ∃ r, rows[k]? = some r := ⟨_, List.getElem?_eq_getElem hlt⟩
      obtain ⟨hlen, b, off, rfl, hb, hcell⟩ := HR.out k r hrk
      obtain ⟨c0, c1, c2, rfl⟩ := three hlen
      have x0 : wr.cell? ⟨b, off + k * 3, none⟩ = some c0 := (hB.cell (p := ⟨b, off + k * 3 + 0, none⟩) hb).trans (hcell 0 _ rfl)
      have x1 : wr.cell? ⟨b, off + k * 3 + 1, none⟩ = some c1 := (hB.cell (p := ⟨b, off + k * 3 + 1, none⟩) hb).trans (hcell 1 _ rfl)
      have x2 : wr.cell? ⟨b, off + k * 3 + 2, none⟩ = some c2 := (hB.cell (p := ⟨b, off + k * 3 + 2, none⟩) hb).trans (hcell 2 _ rfl)
      have hcall := HP.out wr k _ hrk hB
      have hltz : (k : Int) < (rows.length : Int) := by omega
      have HB := Lib.hid hB
      clear hcell hrk hlen hB
      cases hq : p k with
      | true =>
        rw [hq] at hcall
        have HQ := Lib.hid hq
        clear hq
        go_wp2_with (go_at_fn g; refine hcall.mono ?_; rintro e w' ⟨rfl, hb'⟩)
        go_ret
        exact ⟨by rw [idxN_hit hlt HQ.out HA.out]; rfl, HB.out.trans (hb'.mono HB.out.size)⟩
      | false =>
        rw [hq] at hcall
        have HQ := Lib.hid hq
        clear hq
        go_wp2_with (go_at_fn g; refine hcall.mono ?_; rintro e w' ⟨rfl, hb'⟩)
        go_roundg (rows.length - (k + 1))
        case measure => omega
        case rel => exact ⟨k + 1, by omega, by omega, by go_num, HB.out.trans (hb'.mono HB.out.size), Lib.hid fun j hj => by rcases (show j < k ∨ j = k by omega) with h9 | rfl; exact HA.out j h9; exact HQ.out⟩
    · have hltz : ¬ (k : Int) < (rows.length : Int) := by omega
      obtain rfl : k = rows.length := by omega
      have HB := Lib.hid hB
      clear hB
      go_wp2_with fail
      go_ret
      exact ⟨by rw [idxN_miss HA.out]; rfl, HB.out⟩
set_option maxRecDepth 100000 in
theorem cont_glob (la : Option Addr) (c : Nat) (rows : List (List Value)) (p : Nat → Bool) (g : Nat) (lb : Array Value) (eg : ∀ args w, (callFunc g args).run Tryz.prog w = .ok (.enter g args) w) (w : World)
    (hrow : RowAt w 3 (.slice la rows.length c) rows) (hp : PredRow g lb rows p w) :
    Calls Tryz.prog 97 #[.slice la rows.length c, .func (.func g) #[] lb] w fun e w' => e = .returned (.bool (anyN p rows.length)) ∧ Below w.heap.size w w' := by
  rw [anyN_iff]
  have hcall := idx_glob la c rows p g lb eg w hrow hp
  obtain ⟨R, hR⟩ : ∃ R, idxN p rows.length = R := ⟨_, rfl⟩
  rw [hR] at hcall ⊢
  clear hR hp hrow
  go_enter Tryz.func97, Tryz.ntmps97
  go_wp2_with (go_at_call 135; refine hcall.mono ?_; rintro e w' ⟨rfl, hb'⟩)
  go_ret
  exact ⟨rfl, hb'⟩
set_option maxRecDepth 100000 in
set_option maxHeartbeats 1000000 in
theorem not_glob (rows : List (List Value)) (q : Nat → Bool) (g : Nat) (eg : ∀ args w, (callFunc g args).run Tryz.prog w = .ok (.enter g args) w) (B : Nat) (w : World) (hlen : ∀ (j : Nat) (r : List Value), rows[j]? = some r → r.length = 3) (hB : B < w.heap.size) (hc : w.cell? ⟨B, 0, none⟩ = some (.func (.func g) #[] #[])) (hp : PredRow g #[] rows q w) :
    PredRow 98 #[.pointer (some ⟨B, 0, none⟩)] rows (fun j => !q j) w := fun W j r hr hb => by
  have hc' : W.cell? ⟨B, 0, none⟩ = some (.func (.func g) #[] #[]) := (hb.cell (p := ⟨B, 0, none⟩) hB).trans hc
  have hBW : B < W.heap.size := Nat.lt_of_lt_of_le hB hb.size
  obtain ⟨c0, c1, c2, rfl⟩ := three (hlen j r hr)
  have hcall := hp (W.alloc (.cells #[c0, c1, c2] 35)) j _ hr (hb.alloc hb.size _)
  have hBW2 : B < (W.alloc (.cells #[c0, c1, c2] 35)).heap.size := by simp; omega
  show Calls Tryz.prog 98 #[.agg #[c0, c1, c2], .pointer (some ⟨B, 0, none⟩)] W fun e w' => e = .returned (.bool (!q j)) ∧ Below W.heap.size W w'
  obtain ⟨Q, hQ⟩ : ∃ Q, q j = Q := ⟨_, rfl⟩
  rw [hQ] at hcall ⊢
  have hne : B ≠ W.heap.size := by omega
  clear hQ hp hr
  change Calls Tryz.prog g #[.agg #[c0, c1, c2]] _ _ at hcall
  go_enter Tryz.func98, Tryz.ntmps98
  go_wp2_with (go_at_fn g; refine hcall.mono ?_; rintro e w' ⟨rfl, hb'⟩)
  go_ret
  exact ⟨rfl, ((Below.refl _ _).alloc (Nat.le_refl _) _).trans (hb'.mono (by simp))⟩
set_option maxRecDepth 100000 in
set_option maxHeartbeats 1000000 in
theorem all_glob (la : Option Addr) (c : Nat) (rows : List (List Value)) (q : Nat → Bool) (g : Nat) (eg : ∀ args w, (callFunc g args).run Tryz.prog w = .ok (.enter g args) w) (w : World)
    (hrow : RowAt w 3 (.slice la rows.length c) rows) (hp : PredRow g #[] rows q w) :
    Calls Tryz.prog 67 #[.slice la rows.length c, .func (.func g) #[] #[]] w fun e w' => e = .returned (.bool (decide (rows.length ≤ 4096) && !anyN (fun j => !q j) rows.length)) ∧ Below w.heap.size w w' := by
  have ea : ∀ args w, (callFunc 98 args).run Tryz.prog w = .ok (.enter 98 args) w := enters_of Tryz.func98 (by kernel_rfl) rfl
  have hB1 : Below w.heap.size w (w.alloc (.cells #[.func (.func g) #[] #[]] 144)) := (Below.refl _ _).alloc (Nat.le_refl _) _
  by_cases hle : rows.length ≤ 4096
  · have hcall := cont_glob la c rows (fun j => !q j) 98 #[.pointer (some ⟨w.heap.size, 0, none⟩)] ea (w.alloc (.cells #[.func (.func g) #[] #[]] 144)) (hrow.later hB1)
      (not_glob rows q g eg w.heap.size _ (fun j r hr => by obtain ⟨_, _, _, _, h⟩ := hrow; exact (h j r hr).1) (by simp) (by simp) (hp.rebase hB1))
    obtain ⟨Q, hQ⟩ : ∃ Q, anyN (fun j => !q j) rows.length = Q := ⟨_, rfl⟩
    rw [hQ] at hcall ⊢
    have hd : decide (rows.length ≤ 4096) = true := decide_eq_true hle
    rw [hd]
    clear hQ hp hrow
    go_enter Tryz.func67, Tryz.ntmps67
    go_wp2_with (go_at_call 97; refine hcall.mono ?_; rintro e w' ⟨rfl, hb'⟩)
    go_ret
    exact ⟨rfl, hB1.trans (hb'.mono (by simp))⟩
  · have hd : decide (rows.length ≤ 4096) = false := decide_eq_false hle
    rw [hd]
    clear hp hrow
    go_enter Tryz.func67, Tryz.ntmps67
    go_wp2_with fail
    go_ret
    exact ⟨rfl, hB1⟩
set_option maxRecDepth 100000 in
set_option maxHeartbeats 2000000 in
theorem idx_exp (la : Option Addr) (c : Nat) (rows : List (List Value)) (p : Nat → Bool) (g : Nat) (lb : Array Value) (eg : ∀ args w, (callFunc g args).run Tryz.prog w = .ok (.enter g args) w) (w : World)
    (hrow : RowAt w 3 (.slice la rows.length c) rows) (hp : PredRow g lb rows p w) :
    Calls Tryz.prog 136 #[.slice la rows.length c, .func (.func g) #[] lb] w fun e w' => e = .returned (.int .i64 (idxN p rows.length)) ∧ Below w.heap.size w w' := by
  obtain ⟨la', c', hv, hle, hr⟩ := hrow
  obtain ⟨rfl, rfl⟩ : la = la' ∧ c = c' := by simp only [Value.slice.injEq] at hv; exact ⟨hv.1, hv.2.2⟩
  have HR := Lib.hid hr
  have HP := Lib.hid hp
  clear hr hp hv
  go_enter Tryz.func136, Tryz.ntmps136
  go_wp2_with fail
  go_loopg [5, 8] rows.length (fun gk _ s8 wr => ∃ k : Nat, k ≤ rows.length ∧ rows.length - k ≤ gk ∧ s8 = .int .i64 k ∧ Below w.heap.size w wr ∧ Hid (∀ j, j < k → p j = false))
  case atStart => exact ⟨0, Nat.zero_le _, by omega, rfl, Below.refl _ w, Lib.hid fun j hj => absurd hj (Nat.not_lt_zero _)⟩
  case round =>
    obtain ⟨k, hk, hg, rfl, hB, HA⟩ := hrel
    by_cases hlt : k < rows.length
    · obtain ⟨r, hrk⟩ : ∃ r, rows[k]? = some r := ⟨_, List.getElem?_eq_getElem hlt⟩
      obtain ⟨hlen, b, off, rfl, hb, hcell⟩ := HR.out k r hrk
      obtain ⟨c0, c1, c2, rfl⟩ := three hlen
      have x0 : wr.cell? ⟨b, off + k * 3, none⟩ = some c0 := (hB.cell (p := ⟨b, off + k * 3 + 0, none⟩) hb).trans (hcell 0 _ rfl)
      have x1 : wr.cell? ⟨b, off + k * 3 + 1, none⟩ = some c1 := (hB.cell (p := ⟨b, off + k * 3 + 1, none⟩) hb).trans (hcell 1 _ rfl)
      have x2 : wr.cell? ⟨b, off + k * 3 + 2, none⟩ = some c2 := (hB.cell (p := ⟨b, off + k * 3 + 2, none⟩) hb).trans (hcell 2 _ rfl)
      have hcall := HP.out wr k _ hrk hB
      have hltz : (k : Int) < (rows.length : Int) := by omega
      have HB := Lib.hid hB
      clear hcell hrk hlen hB
      cases hq : p k with
      | true =>
        rw [hq] at hcall
        have HQ := Lib.hid hq
        clear hq
        go_wp2_with (go_at_fn g; refine hcall.mono ?_; rintro e w' ⟨rfl, hb'⟩)
        go_ret
        exact ⟨by rw [idxN_hit hlt HQ.out HA.out]; rfl, HB.out.trans (hb'.mono HB.out.size)⟩
      | false =>
        rw [hq] at hcall
        have HQ := Lib.hid hq
        clear hq
        go_wp2_with (go_at_fn g; refine hcall.mono ?_; rintro e w' ⟨rfl, hb'⟩)
        go_roundg (rows.length - (k + 1))
        case measure => omega
        case rel => exact ⟨k + 1, by omega, by omega, by go_num, HB.out.trans (hb'.mono HB.out.size), Lib.hid fun j hj => by rcases (show j < k ∨ j = k by omega) with h9 | rfl; exact HA.out j h9; exact HQ.out⟩
    · have hltz : ¬ (k : Int) < (rows.length : Int) := by omega
      obtain rfl : k = rows.length := by omega
      have HB := Lib.hid hB
      clear hB
      go_wp2_with fail
      go_ret
      exact ⟨by rw [idxN_miss HA.out]; rfl, HB.out⟩
set_option maxRecDepth 100000 in
theorem cont_exp (la : Option Addr) (c : Nat) (rows : List (List Value)) (p : Nat → Bool) (g : Nat) (lb : Array Value) (eg : ∀ args w, (callFunc g args).run Tryz.prog w = .ok (.enter g args) w) (w : World)
    (hrow : RowAt w 3 (.slice la rows.length c) rows) (hp : PredRow g lb rows p w) :
    Calls Tryz.prog 99 #[.slice la rows.length c, .func (.func g) #[] lb] w fun e w' => e = .returned (.bool (anyN p rows.length)) ∧ Below w.heap.size w w' := by
  rw [anyN_iff]
  have hcall := idx_exp la c rows p g lb eg w hrow hp
  obtain ⟨R, hR⟩ : ∃ R, idxN p rows.length = R := ⟨_, rfl⟩
  rw [hR] at hcall ⊢
  clear hR hp hrow
  go_enter Tryz.func99, Tryz.ntmps99
  go_wp2_with (go_at_call 136; refine hcall.mono ?_; rintro e w' ⟨rfl, hb'⟩)
  go_ret
  exact ⟨rfl, hb'⟩
set_option maxRecDepth 100000 in
set_option maxHeartbeats 1000000 in
theorem not_exp (rows : List (List Value)) (q : Nat → Bool) (g : Nat) (eg : ∀ args w, (callFunc g args).run Tryz.prog w = .ok (.enter g args) w) (B : Nat) (w : World) (hlen : ∀ (j : Nat) (r : List Value), rows[j]? = some r → r.length = 3) (hB : B < w.heap.size) (hc : w.cell? ⟨B, 0, none⟩ = some (.func (.func g) #[] #[])) (hp : PredRow g #[] rows q w) :
    PredRow 100 #[.pointer (some ⟨B, 0, none⟩)] rows (fun j => !q j) w := fun W j r hr hb => by
  have hc' : W.cell? ⟨B, 0, none⟩ = some (.func (.func g) #[] #[]) := (hb.cell (p := ⟨B, 0, none⟩) hB).trans hc
  have hBW : B < W.heap.size := Nat.lt_of_lt_of_le hB hb.size
  obtain ⟨c0, c1, c2, rfl⟩ := three (hlen j r hr)
  have hcall := hp (W.alloc (.cells #[c0, c1, c2] 98)) j _ hr (hb.alloc hb.size _)
  have hBW2 : B < (W.alloc (.cells #[c0, c1, c2] 98)).heap.size := by simp; omega
  show Calls Tryz.prog 100 #[.agg #[c0, c1, c2], .pointer (some ⟨B, 0, none⟩)] W fun e w' => e = .returned (.bool (!q j)) ∧ Below W.heap.size W w'
  obtain ⟨Q, hQ⟩ : ∃ Q, q j = Q := ⟨_, rfl⟩
  rw [hQ] at hcall ⊢
  have hne : B ≠ W.heap.size := by omega
  clear hQ hp hr
  change Calls Tryz.prog g #[.agg #[c0, c1, c2]] _ _ at hcall
  go_enter Tryz.func100, Tryz.ntmps100
  go_wp2_with (go_at_fn g; refine hcall.mono ?_; rintro e w' ⟨rfl, hb'⟩)
  go_ret
  exact ⟨rfl, ((Below.refl _ _).alloc (Nat.le_refl _) _).trans (hb'.mono (by simp))⟩
set_option maxRecDepth 100000 in
set_option maxHeartbeats 1000000 in
theorem all_exp (la : Option Addr) (c : Nat) (rows : List (List Value)) (q : Nat → Bool) (g : Nat) (eg : ∀ args w, (callFunc g args).run Tryz.prog w = .ok (.enter g args) w) (w : World)
    (hrow : RowAt w 3 (.slice la rows.length c) rows) (hp : PredRow g #[] rows q w) :
    Calls Tryz.prog 69 #[.slice la rows.length c, .func (.func g) #[] #[]] w fun e w' => e = .returned (.bool (decide (rows.length ≤ 4096) && !anyN (fun j => !q j) rows.length)) ∧ Below w.heap.size w w' := by
  have ea : ∀ args w, (callFunc 100 args).run Tryz.prog w = .ok (.enter 100 args) w := enters_of Tryz.func100 (by kernel_rfl) rfl
  have hB1 : Below w.heap.size w (w.alloc (.cells #[.func (.func g) #[] #[]] 147)) := (Below.refl _ _).alloc (Nat.le_refl _) _
  by_cases hle : rows.length ≤ 4096
  · have hcall := cont_exp la c rows (fun j => !q j) 100 #[.pointer (some ⟨w.heap.size, 0, none⟩)] ea (w.alloc (.cells #[.func (.func g) #[] #[]] 147)) (hrow.later hB1)
      (not_exp rows q g eg w.heap.size _ (fun j r hr => by obtain ⟨_, _, _, _, h⟩ := hrow; exact (h j r hr).1) (by simp) (by simp) (hp.rebase hB1))
    obtain ⟨Q, hQ⟩ : ∃ Q, anyN (fun j => !q j) rows.length = Q := ⟨_, rfl⟩
    rw [hQ] at hcall ⊢
    have hd : decide (rows.length ≤ 4096) = true := decide_eq_true hle
    rw [hd]
    clear hQ hp hrow
    go_enter Tryz.func69, Tryz.ntmps69
    go_wp2_with (go_at_call 99; refine hcall.mono ?_; rintro e w' ⟨rfl, hb'⟩)
    go_ret
    exact ⟨rfl, hB1.trans (hb'.mono (by simp))⟩
  · have hd : decide (rows.length ≤ 4096) = false := decide_eq_false hle
    rw [hd]
    clear hp hrow
    go_enter Tryz.func69, Tryz.ntmps69
    go_wp2_with fail
    go_ret
    exact ⟨rfl, hB1⟩
set_option maxRecDepth 100000 in
set_option maxHeartbeats 2000000 in
theorem idx_data (la : Option Addr) (c : Nat) (rows : List (List Value)) (p : Nat → Bool) (g : Nat) (lb : Array Value) (eg : ∀ args w, (callFunc g args).run Tryz.prog w = .ok (.enter g args) w) (w : World)
    (hrow : RowAt w 2 (.slice la rows.length c) rows) (hp : PredRow g lb rows p w) :
    Calls Tryz.prog 138 #[.slice la rows.length c, .func (.func g) #[] lb] w fun e w' => e = .returned (.int .i64 (idxN p rows.length)) ∧ Below w.heap.size w w' := by
  obtain ⟨la', c', hv, hle, hr⟩ := hrow
  obtain ⟨rfl, rfl⟩ : la = la' ∧ c = c' := by simp only [Value.slice.injEq] at hv; exact ⟨hv.1, hv.2.2⟩
  have HR := Lib.hid hr
  have HP := Lib.hid hp
  clear hr hp hv
  go_enter Tryz.func138, Tryz.ntmps138
  go_wp2_with fail
  go_loopg [5, 8] rows.length (fun gk _ s8 wr => ∃ k : Nat, k ≤ rows.length ∧ rows.length - k ≤ gk ∧ s8 = .int .i64 k ∧ Below w.heap.size w wr ∧ Hid (∀ j, j < k → p j = false))
  case atStart => exact ⟨0, Nat.zero_le _, by omega, rfl, Below.refl _ w, Lib.hid fun j hj => absurd hj (Nat.not_lt_zero _)⟩
  case round =>
    obtain ⟨k, hk, hg, rfl, hB, HA⟩ := hrel
    by_cases hlt : k < rows.length
    · obtain ⟨r, hrk⟩ : ∃ r, rows[k]? = some r := ⟨_, List.getElem?_eq_getElem hlt⟩
      obtain ⟨hlen, b, off, rfl, hb, hcell⟩ := HR.out k r hrk
      obtain ⟨c0, c1, rfl⟩ := two hlen
      have x0 : wr.cell? ⟨b, off + k * 2, none⟩ = some c0 := (hB.cell (p := ⟨b, off + k * 2 + 0, none⟩) hb).trans (hcell 0 _ rfl)
      have x1 : wr.cell? ⟨b, off + k * 2 + 1, none⟩ = some c1 := (hB.cell (p := ⟨b, off + k * 2 + 1, none⟩) hb).trans (hcell 1 _ rfl)
      have hcall := HP.out wr k _ hrk hB
      have hltz : (k : Int) < (rows.length : Int) := by omega
      have HB := Lib.hid hB
      clear hcell hrk hlen hB
      cases hq : p k with
      | true =>
        rw [hq] at hcall
        have HQ := Lib.hid hq
        clear hq
        go_wp2_with (go_at_fn g; refine hcall.mono ?_; rintro e w' ⟨rfl, hb'⟩)
        go_ret
        exact ⟨by rw [idxN_hit hlt HQ.out HA.out]; rfl, HB.out.trans (hb'.mono HB.out.size)⟩
      | false =>
        rw [hq] at hcall
        have HQ := Lib.hid hq
        clear hq
        go_wp2_with (go_at_fn g; refine hcall.mono ?_; rintro e w' ⟨rfl, hb'⟩)
        go_roundg (rows.length - (k + 1))
        case measure => omega
        case rel => exact ⟨k + 1, by omega, by omega, by go_num, HB.out.trans (hb'.mono HB.out.size), Lib.hid fun j hj => by rcases (show j < k ∨ j = k by omega) with h9 | rfl; exact HA.out j h9; exact HQ.out⟩
    · have hltz : ¬ (k : Int) < (rows.length : Int) := by omega
      obtain rfl : k = rows.length := by omega
      have HB := Lib.hid hB
      clear hB
      go_wp2_with fail
      go_ret
      exact ⟨by rw [idxN_miss HA.out]; rfl, HB.out⟩
set_option maxRecDepth 100000 in
theorem cont_data (la : Option Addr) (c : Nat) (rows : List (List Value)) (p : Nat → Bool) (g : Nat) (lb : Array Value) (eg : ∀ args w, (callFunc g args).run Tryz.prog w = .ok (.enter g args) w) (w : World)
    (hrow : RowAt w 2 (.slice la rows.length c) rows) (hp : PredRow g lb rows p w) :
    Calls Tryz.prog 102 #[.slice la rows.length c, .func (.func g) #[] lb] w fun e w' => e = .returned (.bool (anyN p rows.length)) ∧ Below w.heap.size w w' := by
  rw [anyN_iff]
  have hcall := idx_data la c rows p g lb eg w hrow hp
  obtain ⟨R, hR⟩ : ∃ R, idxN p rows.length = R := ⟨_, rfl⟩
  rw [hR] at hcall ⊢
  clear hR hp hrow
  go_enter Tryz.func102, Tryz.ntmps102
  go_wp2_with (go_at_call 138; refine hcall.mono ?_; rintro e w' ⟨rfl, hb'⟩)
  go_ret
  exact ⟨rfl, hb'⟩
set_option maxRecDepth 100000 in
set_option maxHeartbeats 1000000 in
theorem not_data (rows : List (List Value)) (q : Nat → Bool) (g : Nat) (eg : ∀ args w, (callFunc g args).run Tryz.prog w = .ok (.enter g args) w) (B : Nat) (w : World) (hlen : ∀ (j : Nat) (r : List Value), rows[j]? = some r → r.length = 2) (hB : B < w.heap.size) (hc : w.cell? ⟨B, 0, none⟩ = some (.func (.func g) #[] #[])) (hp : PredRow g #[] rows q w) :
    PredRow 103 #[.pointer (some ⟨B, 0, none⟩)] rows (fun j => !q j) w := fun W j r hr hb => by
  have hc' : W.cell? ⟨B, 0, none⟩ = some (.func (.func g) #[] #[]) := (hb.cell (p := ⟨B, 0, none⟩) hB).trans hc
  have hBW : B < W.heap.size := Nat.lt_of_lt_of_le hB hb.size
  obtain ⟨c0, c1, rfl⟩ := two (hlen j r hr)
  have hcall := hp (W.alloc (.cells #[c0, c1] 57)) j _ hr (hb.alloc hb.size _)
  have hBW2 : B < (W.alloc (.cells #[c0, c1] 57)).heap.size := by simp; omega
  show Calls Tryz.prog 103 #[.agg #[c0, c1], .pointer (some ⟨B, 0, none⟩)] W fun e w' => e = .returned (.bool (!q j)) ∧ Below W.heap.size W w'
  obtain ⟨Q, hQ⟩ : ∃ Q, q j = Q := ⟨_, rfl⟩
  rw [hQ] at hcall ⊢
  have hne : B ≠ W.heap.size := by omega
  clear hQ hp hr
  change Calls Tryz.prog g #[.agg #[c0, c1]] _ _ at hcall
  go_enter Tryz.func103, Tryz.ntmps103
  go_wp2_with (go_at_fn g; refine hcall.mono ?_; rintro e w' ⟨rfl, hb'⟩)
  go_ret
  exact ⟨rfl, ((Below.refl _ _).alloc (Nat.le_refl _) _).trans (hb'.mono (by simp))⟩
set_option maxRecDepth 100000 in
set_option maxHeartbeats 1000000 in
theorem all_data (la : Option Addr) (c : Nat) (rows : List (List Value)) (q : Nat → Bool) (g : Nat) (eg : ∀ args w, (callFunc g args).run Tryz.prog w = .ok (.enter g args) w) (w : World)
    (hrow : RowAt w 2 (.slice la rows.length c) rows) (hp : PredRow g #[] rows q w) :
    Calls Tryz.prog 72 #[.slice la rows.length c, .func (.func g) #[] #[]] w fun e w' => e = .returned (.bool (decide (rows.length ≤ 4096) && !anyN (fun j => !q j) rows.length)) ∧ Below w.heap.size w w' := by
  have ea : ∀ args w, (callFunc 103 args).run Tryz.prog w = .ok (.enter 103 args) w := enters_of Tryz.func103 (by kernel_rfl) rfl
  have hB1 : Below w.heap.size w (w.alloc (.cells #[.func (.func g) #[] #[]] 149)) := (Below.refl _ _).alloc (Nat.le_refl _) _
  by_cases hle : rows.length ≤ 4096
  · have hcall := cont_data la c rows (fun j => !q j) 103 #[.pointer (some ⟨w.heap.size, 0, none⟩)] ea (w.alloc (.cells #[.func (.func g) #[] #[]] 149)) (hrow.later hB1)
      (not_data rows q g eg w.heap.size _ (fun j r hr => by obtain ⟨_, _, _, _, h⟩ := hrow; exact (h j r hr).1) (by simp) (by simp) (hp.rebase hB1))
    obtain ⟨Q, hQ⟩ : ∃ Q, anyN (fun j => !q j) rows.length = Q := ⟨_, rfl⟩
    rw [hQ] at hcall ⊢
    have hd : decide (rows.length ≤ 4096) = true := decide_eq_true hle
    rw [hd]
    clear hQ hp hrow
    go_enter Tryz.func72, Tryz.ntmps72
    go_wp2_with (go_at_call 102; refine hcall.mono ?_; rintro e w' ⟨rfl, hb'⟩)
    go_ret
    exact ⟨rfl, hB1.trans (hb'.mono (by simp))⟩
  · have hd : decide (rows.length ≤ 4096) = false := decide_eq_false hle
    rw [hd]
    clear hp hrow
    go_enter Tryz.func72, Tryz.ntmps72
    go_wp2_with fail
    go_ret
    exact ⟨rfl, hB1⟩
set_option maxRecDepth 100000 in
set_option maxHeartbeats 2000000 in
theorem idx_ins (la : Option Addr) (c : Nat) (rows : List (List Value)) (p : Nat → Bool) (g : Nat) (lb : Array Value) (eg : ∀ args w, (callFunc g args).run Tryz.prog w = .ok (.enter g args) w) (w : World)
    (hrow : RowAt w 4 (.slice la rows.length c) rows) (hp : PredRow g lb rows p w) :
    Calls Tryz.prog 92 #[.slice la rows.length c, .func (.func g) #[] lb] w fun e w' => e = .returned (.int .i64 (idxN p rows.length)) ∧ Below w.heap.size w w' := by
  obtain ⟨la', c', hv, hle, hr⟩ := hrow
  obtain ⟨rfl, rfl⟩ : la = la' ∧ c = c' := by simp only [Value.slice.injEq] at hv; exact ⟨hv.1, hv.2.2⟩
  have HR := Lib.hid hr
  have HP := Lib.hid hp
  clear hr hp hv
  go_enter Tryz.func92, Tryz.ntmps92
  go_wp2_with fail
  go_loopg [5, 8] rows.length (fun gk _ s8 wr => ∃ k : Nat, k ≤ rows.length ∧ rows.length - k ≤ gk ∧ s8 = .int .i64 k ∧ Below w.heap.size w wr ∧ Hid (∀ j, j < k → p j = false))
  case atStart => exact ⟨0, Nat.zero_le _, by omega, rfl, Below.refl _ w, Lib.hid fun j hj => absurd hj (Nat.not_lt_zero _)⟩
  case round =>
    obtain ⟨k, hk, hg, rfl, hB, HA⟩ := hrel
    by_cases hlt : k < rows.length
    · obtain ⟨r, hrk⟩ : ∃ r, rows[k]? = some r := ⟨_, List.getElem?_eq_getElem hlt⟩
      obtain ⟨hlen, b, off, rfl, hb, hcell⟩ := HR.out k r hrk
      obtain ⟨c0, c1, c2, c3, rfl⟩ := four hlen
      have x0 : wr.cell? ⟨b, off + k * 4, none⟩ = some c0 := (hB.cell (p := ⟨b, off + k * 4 + 0, none⟩) hb).trans (hcell 0 _ rfl)
      have x1 : wr.cell? ⟨b, off + k * 4 + 1, none⟩ = some c1 := (hB.cell (p := ⟨b, off + k * 4 + 1, none⟩) hb).trans (hcell 1 _ rfl)
      have x2 : wr.cell? ⟨b, off + k * 4 + 2, none⟩ = some c2 := (hB.cell (p := ⟨b, off + k * 4 + 2, none⟩) hb).trans (hcell 2 _ rfl)
      have x3 : wr.cell? ⟨b, off + k * 4 + 3, none⟩ = some c3 := (hB.cell (p := ⟨b, off + k * 4 + 3, none⟩) hb).trans (hcell 3 _ rfl)
      have hcall := HP.out wr k _ hrk hB
      have hltz : (k : Int) < (rows.length : Int) := by omega
      have HB := Lib.hid hB
      clear hcell hrk hlen hB
      cases hq : p k with
      | true =>
        rw [hq] at hcall
        have HQ := Lib.hid hq
        clear hq
        go_wp2_with (go_at_fn g; refine hcall.mono ?_; rintro e w' ⟨rfl, hb'⟩)
        go_ret
        exact ⟨by rw [idxN_hit hlt HQ.out HA.out]; rfl, HB.out.trans (hb'.mono HB.out.size)⟩
      | false =>
        rw [hq] at hcall
        have HQ := Lib.hid hq
        clear hq
        go_wp2_with (go_at_fn g; refine hcall.mono ?_; rintro e w' ⟨rfl, hb'⟩)
        go_roundg (rows.length - (k + 1))
        case measure => omega
        case rel => exact ⟨k + 1, by omega, by omega, by go_num, HB.out.trans (hb'.mono HB.out.size), Lib.hid fun j hj => by rcases (show j < k ∨ j = k by omega) with h9 | rfl; exact HA.out j h9; exact HQ.out⟩
    · have hltz : ¬ (k : Int) < (rows.length : Int) := by omega
      obtain rfl : k = rows.length := by omega
      have HB := Lib.hid hB
      clear hB
      go_wp2_with fail
      go_ret
      exact ⟨by rw [idxN_miss HA.out]; rfl, HB.out⟩
set_option maxRecDepth 100000 in
theorem cont_ins (la : Option Addr) (c : Nat) (rows : List (List Value)) (p : Nat → Bool) (g : Nat) (lb : Array Value) (eg : ∀ args w, (callFunc g args).run Tryz.prog w = .ok (.enter g args) w) (w : World)
    (hrow : RowAt w 4 (.slice la rows.length c) rows) (hp : PredRow g lb rows p w) :
    Calls Tryz.prog 62 #[.slice la rows.length c, .func (.func g) #[] lb] w fun e w' => e = .returned (.bool (anyN p rows.length)) ∧ Below w.heap.size w w' := by
  rw [anyN_iff]
  have hcall := idx_ins la c rows p g lb eg w hrow hp
  obtain ⟨R, hR⟩ : ∃ R, idxN p rows.length = R := ⟨_, rfl⟩
  rw [hR] at hcall ⊢
  clear hR hp hrow
  go_enter Tryz.func62, Tryz.ntmps62
  go_wp2_with (go_at_call 92; refine hcall.mono ?_; rintro e w' ⟨rfl, hb'⟩)
  go_ret
  exact ⟨rfl, hb'⟩
end Go.Proofs.YtmbgemcddjailaaGreatDoor.Mod
