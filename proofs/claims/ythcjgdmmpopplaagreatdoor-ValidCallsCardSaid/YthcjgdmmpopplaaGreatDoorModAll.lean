/-
  What package module's all, and slices.ContainsFunc, slices.IndexFunc, answer of a slice of structs. No condition beyond what each theorem names.
-/
import Derived.Test.YthcjgdmmpopplaaGreatDoorModDefs
import Derived.Deep.LoopGhost
namespace Go.Proofs.YthcjgdmmpopplaaGreatDoor.Mod
open Go.RowKit Go.Maps Go.Proofs.YthcjgdmmpopplaaGreatDoor.Op
set_option linter.unusedVariables false
set_option maxRecDepth 100000 in
set_option maxHeartbeats 2000000 in
theorem idx_ft (la : Option Addr) (c : Nat) (rows : List (List Value)) (p : Nat → Bool) (g : Nat) (lb : Array Value) (eg : ∀ args w, (callFunc g args).run Tryz.prog w = .ok (.enter g args) w) (w : World)
    (hrow : RowAt w 2 (.slice la rows.length c) rows) (hp : PredRow g lb rows p w) :
    Calls Tryz.prog 74 #[.slice la rows.length c, .func (.func g) #[] lb] w fun e w' => e = .returned (.int .i64 (idxN p rows.length)) ∧ Below w.heap.size w w' := by
  obtain ⟨la', c', hv, hle, hr⟩ := hrow
  obtain ⟨rfl, rfl⟩ : la = la' ∧ c = c' := by simp only [Value.slice.injEq] at hv; exact ⟨hv.1, hv.2.2⟩
  have HR := Lib.hid hr
  have HP := Lib.hid hp
  clear hr hp hv
  go_enter Tryz.func74, Tryz.ntmps74
  go_wp2_with fail
  go_loopg [5, 8] rows.length (fun gk _ s8 wr => ∃ k : Nat, k ≤ rows.length ∧ rows.length - k ≤ gk ∧ s8 = .int .i64 k ∧ Below w.heap.size w wr ∧ Hid (∀ j, j < k → p j = false))
  case atStart => exact ⟨0, Nat.zero_le _, by omega, rfl, Below.refl _ w, Lib.hid fun j hj => absurd hj (Nat.not_lt_zero _)⟩
  case round =>
    obtain ⟨k, hk, hg, rfl, hB, HA⟩ := hrel
    by_cases hlt : k < rows.length
    · obtain ⟨r, hrk⟩ : ∃ r, rows[k]? = some r := ⟨_, List.getElem?_eq_getElem hlt⟩
      obtain ⟨hlen, b, off, rfl, hb, hcell⟩ := HR.out k r hrk
      obtain ⟨c0, c1, rfl⟩ := two hlen
      have x0 : wr.cell? ⟨b, off + k * 2, none⟩ = some c0 := (hB.cell (p := ⟨b, off + k * 2 + 0, none⟩) hb).trans (hcell 0 _ rfl)
      have x1 : wr.cell? ⟨b, off + k * 2 + 1, none⟩ = some c1 := (hB.cell (p := ⟨b, off + k * 2 + 1, none⟩) hb).trans (hcell 1 _ rfl)
      have hcall := HP.out wr k _ hrk hB
      have hltz : (k : Int) < (rows.length : Int) := by omega
      have HB := Lib.hid hB
      clear hcell hrk hlen hB
      cases hq : p k with
      | true =>
        rw [hq] at hcall
        have HQ := Lib.hid hq
        clear hq
        go_wp2_with (go_at_fn g; refine hcall.mono ?_; rintro e w' ⟨rfl, hb'⟩)
        go_ret
        exact ⟨by rw [idxN_hit hlt HQ.out HA.out]; rfl, HB.out.trans (hb'.mono HB.out.size)⟩
      | false =>
        rw [hq] at hcall
        have HQ := Lib.hid hq
        clear hq
        go_wp2_with (go_at_fn g; refine hcall.mono ?_; rintro e w' ⟨rfl, hb'⟩)
        go_roundg (rows.length - (k + 1))
        case measure => omega
        case rel => exact ⟨k + 1, by omega, by omega, by go_num, HB.out.trans (hb'.mono HB.out.size), Lib.hid fun j hj => by rcases (show j < k ∨ j = k by omega) with h9 | rfl; exact HA.out j h9; exact HQ.out⟩
    · have hltz : ¬ (k : Int) < (rows.length : Int) := by omega
      obtain rfl : k = rows.length := by omega
      have HB := Lib.hid hB
      clear hB
      go_wp2_with fail
      go_ret
      exact ⟨by rw [idxN_miss HA.out]; rfl, HB.out⟩
set_option maxRecDepth 100000 in
theorem cont_ft (la : Option Addr) (c : Nat) (rows : List (List Value)) (p : Nat → Bool) (g : Nat) (lb : Array Value) (eg : ∀ args w, (callFunc g args).run Tryz.prog w = .ok (.enter g args) w) (w : World)
    (hrow : RowAt w 2 (.slice la rows.length c) rows) (hp : PredRow g lb rows p w) :
    Calls Tryz.prog 48 #[.slice la rows.length c, .func (.func g) #[] lb] w fun e w' => e = .returned (.bool (anyN p rows.length)) ∧ Below w.heap.size w w' := by
  rw [anyN_iff]
  have hcall := idx_ft la c rows p g lb eg w hrow hp
  obtain ⟨R, hR⟩ : ∃ R, idxN p rows.length = R := ⟨_, rfl⟩
  rw [hR] at hcall ⊢
  clear hR hp hrow
  go_enter Tryz.func48, Tryz.ntmps48
  go_wp2_with (go_at_call 74; refine hcall.mono ?_; rintro e w' ⟨rfl, hb'⟩)
  go_ret
  exact ⟨rfl, hb'⟩
set_option maxRecDepth 100000 in
set_option maxHeartbeats 1000000 in
theorem not_ft (rows : List (List Value)) (q : Nat → Bool) (g : Nat) (eg : ∀ args w, (callFunc g args).run Tryz.prog w = .ok (.enter g args) w) (B : Nat) (w : World) (hlen : ∀ (j : Nat) (r : List Value), rows[j]? = some r → r.length = 2) (hB : B < w.heap.size) (hc : w.cell? ⟨B, 0, none⟩ = some (.func (.func g) #[] #[])) (hp : PredRow g #[] rows q w) :
    PredRow 49 #[.pointer (some ⟨B, 0, none⟩)] rows (fun j => !q j) w := fun W j r hr hb => by
  have hc' : W.cell? ⟨B, 0, none⟩ = some (.func (.func g) #[] #[]) := (hb.cell (p := ⟨B, 0, none⟩) hB).trans hc
  have hBW : B < W.heap.size := Nat.lt_of_lt_of_le hB hb.size
  obtain ⟨c0, c1, rfl⟩ := two (hlen j r hr)
  have hcall := hp (W.alloc (.cells #[c0, c1] 51)) j _ hr (hb.alloc hb.size _)
  have hBW2 : B < (W.alloc (.cells #[c0, c1] 51)).heap.size := by simp; omega
  show Calls Tryz.prog 49 #[.agg #[c0, c1], .pointer (some ⟨B, 0, none⟩)] W fun e w' => e = .returned (.bool (!q j)) ∧ Below W.heap.size W w'
  obtain ⟨Q, hQ⟩ : ∃ Q, q j = Q := ⟨_, rfl⟩
  rw [hQ] at hcall ⊢
  have hne : B ≠ W.heap.size := by omega
  clear hQ hp hr
  change Calls Tryz.prog g #[.agg #[c0, c1]] _ _ at hcall
  go_enter Tryz.func49, Tryz.ntmps49
  go_wp2_with (go_at_fn g; refine hcall.mono ?_; rintro e w' ⟨rfl, hb'⟩)
  go_ret
  exact ⟨rfl, ((Below.refl _ _).alloc (Nat.le_refl _) _).trans (hb'.mono (by simp))⟩
set_option maxRecDepth 100000 in
set_option maxHeartbeats 1000000 in
theorem all_ft (la : Option Addr) (c : Nat) (rows : List (List Value)) (q : Nat → Bool) (g : Nat) (eg : ∀ args w, (callFunc g args).run Tryz.prog w = .ok (.enter g args) w) (w : World)
    (hrow : RowAt w 2 (.slice la rows.length c) rows) (hp : PredRow g #[] rows q w) :
    Calls Tryz.prog 29 #[.slice la rows.length c, .func (.func g) #[] #[]] w fun e w' => e = .returned (.bool (decide (rows.length ≤ 4096) && !anyN (fun j => !q j) rows.length)) ∧ Below w.heap.size w w' := by
  have ea : ∀ args w, (callFunc 49 args).run Tryz.prog w = .ok (.enter 49 args) w := enters_of Tryz.func49 (by kernel_rfl) rfl
  have hB1 : Below w.heap.size w (w.alloc (.cells #[.func (.func g) #[] #[]] 83)) := (Below.refl _ _).alloc (Nat.le_refl _) _
  by_cases hle : rows.length ≤ 4096
  · have hcall := cont_ft la c rows (fun j => !q j) 49 #[.pointer (some ⟨w.heap.size, 0, none⟩)] ea (w.alloc (.cells #[.func (.func g) #[] #[]] 83)) (hrow.later hB1)
      (not_ft rows q g eg w.heap.size _ (fun j r hr => by obtain ⟨_, _, _, _, h⟩ := hrow; exact (h j r hr).1) (by simp) (by simp) (hp.rebase hB1))
    obtain ⟨Q, hQ⟩ : ∃ Q, anyN (fun j => !q j) rows.length = Q := ⟨_, rfl⟩
    rw [hQ] at hcall ⊢
    have hd : decide (rows.length ≤ 4096) = true := decide_eq_true hle
    rw [hd]
    clear hQ hp hrow
    go_enter Tryz.func29, Tryz.ntmps29
    go_wp2_with (go_at_call 48; refine hcall.mono ?_; rintro e w' ⟨rfl, hb'⟩)
    go_ret
    exact ⟨rfl, hB1.trans (hb'.mono (by simp))⟩
  · have hd : decide (rows.length ≤ 4096) = false := decide_eq_false hle
    rw [hd]
    clear hp hrow
    go_enter Tryz.func29, Tryz.ntmps29
    go_wp2_with fail
    go_ret
    exact ⟨rfl, hB1⟩
set_option maxRecDepth 100000 in
set_option maxHeartbeats 2000000 in
theorem idx_func (la : Option Addr) (c : Nat) (rows : List (List Value)) (p : Nat → Bool) (g : Nat) (lb : Array Value) (eg : ∀ args w, (callFunc g args).run Tryz.prog w = .ok (.enter g args) w) (w : World)
    (hrow : RowAt w 3 (.slice la rows.length c) rows) (hp : PredRow g lb rows p w) :
    Calls Tryz.prog 82 #[.slice la rows.length c, .func (.func g) #[] lb] w fun e w' => e = .returned (.int .i64 (idxN p rows.length)) ∧ Below w.heap.size w w' := by
  obtain ⟨la', c', hv, hle, hr⟩ := hrow
  obtain ⟨rfl, rfl⟩ : la = la' ∧ c = c' := by simp only [Value.slice.injEq] at hv; exact ⟨hv.1, hv.2.2⟩
  have HR := Lib.hid hr
  have HP := Lib.hid hp
  clear hr hp hv
  go_enter Tryz.func82, Tryz.ntmps82
  go_wp2_with fail
  go_loopg [5, 8] rows.length (fun gk _ s8 wr => ∃ k : Nat, k ≤ rows.length ∧ rows.length - k ≤ gk ∧ s8 = .int .i64 k ∧ Below w.heap.size w wr ∧ Hid (∀ j, j < k → p j = false))
  case atStart => exact ⟨0, Nat.zero_le _, by omega, rfl, Below.refl _ w, Lib.hid fun j hj => absurd hj (Nat.not_lt_zero _)⟩
  case round =>
    obtain ⟨k, hk, hg, rfl, hB, HA⟩ := hrel
    by_cases hlt : k < rows.length
    · obtain ⟨r, hrk⟩ : ∃ r, rows[k]? = some r := ⟨_, List.getElem?_eq_getElem hlt⟩
      obtain ⟨hlen, b, off, rfl, hb, hcell⟩ := HR.out k r hrk
      obtain ⟨c0, c1, c2, rfl⟩ := three hlen
      have x0 : wr.cell? ⟨b, off + k * 3, none⟩ = some c0 := (hB.cell (p := ⟨b, off + k * 3 + 0, none⟩) hb).trans (hcell 0 _ rfl)
      have x1 : wr.cell? ⟨b, off + k * 3 + 1, none⟩ = some c1 := (hB.cell (p := ⟨b, off + k * 3 + 1, none⟩) hb).trans (hcell 1 _ rfl)
      have x2 : wr.cell? ⟨b, off + k * 3 + 2, none⟩ = some c2 := (hB.cell (p := ⟨b, off + k * 3 + 2, none⟩) hb).trans (hcell 2 _ rfl)
      have hcall := HP.out wr k _ hrk hB
      have hltz : (k : Int) < (rows.length : Int) := by omega
      have HB := Lib.hid hB
      clear hcell hrk hlen hB
      cases hq : p k with
      | true =>
        rw [hq] at hcall
        have HQ := Lib.hid hq
        clear hq
        go_wp2_with (go_at_fn g; refine hcall.mono ?_; rintro e w' ⟨rfl, hb'⟩)
        go_ret
        exact ⟨by rw [idxN_hit hlt HQ.out HA.out]; rfl, HB.out.trans (hb'.mono HB.out.size)⟩
      | false =>
        rw [hq] at hcall
        have HQ := Lib.hid hq
        clear hq
        go_wp2_with (go_at_fn g; refine hcall.mono ?_; rintro e w' ⟨rfl, hb'⟩)
        go_roundg (rows.length - (k + 1))
        case measure => omega
        case rel => exact ⟨k + 1, by omega, by omega, by go_num, HB.out.trans (hb'.mono HB.out.size), Lib.hid fun j hj => by rcases (show j < k ∨ j = k by omega) with h9 | rfl; exact HA.out j h9; exact HQ.out⟩
    · have hltz : ¬ (k : Int) < (rows.length : Int) := by omega
      obtain rfl : k = rows.length := by omega
      have HB := Lib.hid hB
      clear hB
      go_wp2_with fail
      go_ret
      exact ⟨by rw [idxN_miss HA.out]; rfl, HB.out⟩
set_option maxRecDepth 100000 in
theorem cont_func (la : Option Addr) (c : Nat) (rows : List (List Value)) (p : Nat → Bool) (g : Nat) (lb : Array Value) (eg : ∀ args w, (callFunc g args).run Tryz.prog w = .ok (.enter g args) w) (w : World)
    (hrow : RowAt w 3 (.slice la rows.length c) rows) (hp : PredRow g lb rows p w) :
    Calls Tryz.prog 51 #[.slice la rows.length c, .func (.func g) #[] lb] w fun e w' => e = .returned (.bool (anyN p rows.length)) ∧ Below w.heap.size w w' := by
  rw [anyN_iff]
  have hcall := idx_func la c rows p g lb eg w hrow hp
  obtain ⟨R, hR⟩ : ∃ R, idxN p rows.length = R := ⟨_, rfl⟩
  rw [hR] at hcall ⊢
  clear hR hp hrow
  go_enter Tryz.func51, Tryz.ntmps51
  go_wp2_with (go_at_call 82; refine hcall.mono ?_; rintro e w' ⟨rfl, hb'⟩)
  go_ret
  exact ⟨rfl, hb'⟩
set_option maxRecDepth 100000 in
set_option maxHeartbeats 1000000 in
theorem not_func (rows : List (List Value)) (q : Nat → Bool) (g : Nat) (eg : ∀ args w, (callFunc g args).run Tryz.prog w = .ok (.enter g args) w) (B : Nat) (w : World) (hlen : ∀ (j : Nat) (r : List Value), rows[j]? = some r → r.length = 3) (hB : B < w.heap.size) (hc : w.cell? ⟨B, 0, none⟩ = some (.func (.func g) #[] #[])) (hp : PredRow g #[] rows q w) :
    PredRow 52 #[.pointer (some ⟨B, 0, none⟩)] rows (fun j => !q j) w := fun W j r hr hb => by
  have hc' : W.cell? ⟨B, 0, none⟩ = some (.func (.func g) #[] #[]) := (hb.cell (p := ⟨B, 0, none⟩) hB).trans hc
  have hBW : B < W.heap.size := Nat.lt_of_lt_of_le hB hb.size
  obtain ⟨c0, c1, c2, rfl⟩ := three (hlen j r hr)
  have hcall := hp (W.alloc (.cells #[c0, c1, c2] 35)) j _ hr (hb.alloc hb.size _)
  have hBW2 : B < (W.alloc (.cells #[c0, c1, c2] 35)).heap.size := by simp; omega
  show Calls Tryz.prog 52 #[.agg #[c0, c1, c2], .pointer (some ⟨B, 0, none⟩)] W fun e w' => e = .returned (.bool (!q j)) ∧ Below W.heap.size W w'
  obtain ⟨Q, hQ⟩ : ∃ Q, q j = Q := ⟨_, rfl⟩
  rw [hQ] at hcall ⊢
  have hne : B ≠ W.heap.size := by omega
  clear hQ hp hr
  change Calls Tryz.prog g #[.agg #[c0, c1, c2]] _ _ at hcall
  go_enter Tryz.func52, Tryz.ntmps52
  go_wp2_with (go_at_fn g; refine hcall.mono ?_; rintro e w' ⟨rfl, hb'⟩)
  go_ret
  exact ⟨rfl, ((Below.refl _ _).alloc (Nat.le_refl _) _).trans (hb'.mono (by simp))⟩
set_option maxRecDepth 100000 in
set_option maxHeartbeats 1000000 in
theorem all_func (la : Option Addr) (c : Nat) (rows : List (List Value)) (q : Nat → Bool) (g : Nat) (eg : ∀ args w, (callFunc g args).run Tryz.prog w = .ok (.enter g args) w) (w : World)
    (hrow : RowAt w 3 (.slice la rows.length c) rows) (hp : PredRow g #[] rows q w) :
    Calls Tryz.prog 32 #[.slice la rows.length c, .func (.func g) #[] #[]] w fun e w' => e = .returned (.bool (decide (rows.length ≤ 4096) && !anyN (fun j => !q j) rows.length)) ∧ Below w.heap.size w w' := by
  have ea : ∀ args w, (callFunc 52 args).run Tryz.prog w = .ok (.enter 52 args) w := enters_of Tryz.func52 (by kernel_rfl) rfl
  have hB1 : Below w.heap.size w (w.alloc (.cells #[.func (.func g) #[] #[]] 88)) := (Below.refl _ _).alloc (Nat.le_refl _) _
  by_cases hle : rows.length ≤ 4096
  · have hcall := cont_func la c rows (fun j => !q j) 52 #[.pointer (some ⟨w.heap.size, 0, none⟩)] ea (w.alloc (.cells #[.func (.func g) #[] #[]] 88)) (hrow.later hB1)
      (not_func rows q g eg w.heap.size _ (fun j r hr => by obtain ⟨_, _, _, _, h⟩ := hrow; exact (h j r hr).1) (by simp) (by simp) (hp.rebase hB1))
    obtain ⟨Q, hQ⟩ : ∃ Q, anyN (fun j => !q j) rows.length = Q := ⟨_, rfl⟩
    rw [hQ] at hcall ⊢
    have hd : decide (rows.length ≤ 4096) = true := decide_eq_true hle
    rw [hd]
    clear hQ hp hrow
    go_enter Tryz.func32, Tryz.ntmps32
    go_wp2_with (go_at_call 51; refine hcall.mono ?_; rintro e w' ⟨rfl, hb'⟩)
    go_ret
    exact ⟨rfl, hB1.trans (hb'.mono (by simp))⟩
  · have hd : decide (rows.length ≤ 4096) = false := decide_eq_false hle
    rw [hd]
    clear hp hrow
    go_enter Tryz.func32, Tryz.ntmps32
    go_wp2_with fail
    go_ret
    exact ⟨rfl, hB1⟩
set_option maxRecDepth 100000 in
set_option maxHeartbeats 2000000 in
theorem idx_mem (la : Option Addr) (c : Nat) (rows : List (List Value)) (p : Nat → Bool) (g : Nat) (lb : Array Value) (eg : ∀ args w, (callFunc g args).run Tryz.prog w = .ok (.enter g args) w) (w : World)
    (hrow : RowAt w 2 (.slice la rows.length c) rows) (hp : PredRow g lb rows p w) :
    Calls Tryz.prog 84 #[.slice la rows.length c, .func (.func g) #[] lb] w fun e w' => e = .returned (.int .i64 (idxN p rows.length)) ∧ Below w.heap.size w w' := by
  obtain ⟨la', c', hv, hle, hr⟩ := hrow
  obtain ⟨rfl, rfl⟩ : la = la' ∧ c = c' := by simp only [Value.slice.injEq] at hv; exact ⟨hv.1, hv.2.2⟩
  have HR := Lib.hid hr
  have HP := Lib.hid hp
  clear hr hp hv
  go_enter Tryz.func84, Tryz.ntmps84
  go_wp2_with fail
  go_loopg [5, 8] rows.length (fun gk _ s8 wr => ∃ k : Nat, k ≤ rows.length ∧ rows.length - k ≤ gk ∧ s8 = .int .i64 k ∧ Below w.heap.size w wr ∧ Hid (∀ j, j < k → p j = false))
  case atStart => exact ⟨0, Nat.zero_le _, by omega, rfl, Below.refl _ w, Lib.hid fun j hj => absurd hj (Nat.not_lt_zero _)⟩
  case round =>
    obtain ⟨k, hk, hg, rfl, hB, HA⟩ := hrel
    by_cases hlt : k < rows.length
    · obtain ⟨r, hrk⟩ : ∃ r, rows[k]? = some r := ⟨_, List.getElem?_eq_getElem hlt⟩
      obtain ⟨hlen, b, off, rfl, hb, hcell⟩ := HR.out k r hrk
      obtain ⟨c0, c1, rfl⟩ := two hlen
      have x0 : wr.cell? ⟨b, off + k * 2, none⟩ = some c0 := (hB.cell (p := ⟨b, off + k * 2 + 0, none⟩) hb).trans (hcell 0 _ rfl)
      have x1 : wr.cell? ⟨b, off + k * 2 + 1, none⟩ = some c1 := (hB.cell (p := ⟨b, off + k * 2 + 1, none⟩) hb).trans (hcell 1 _ rfl)
      have hcall := HP.out wr k _ hrk hB
      have hltz : (k : Int) < (rows.length : Int) := by omega
      have HB := Lib.hid hB
      clear hcell hrk hlen hB
      cases hq : p k with
      | true =>
        rw [hq] at hcall
        have HQ := Lib.hid hq
        clear hq
        go_wp2_with (go_at_fn g; refine hcall.mono ?_; rintro e w' ⟨rfl, hb'⟩)
        go_ret
        exact ⟨by rw [idxN_hit hlt HQ.out HA.out]; rfl, HB.out.trans (hb'.mono HB.out.size)⟩
      | false =>
        rw [hq] at hcall
        have HQ := Lib.hid hq
        clear hq
        go_wp2_with (go_at_fn g; refine hcall.mono ?_; rintro e w' ⟨rfl, hb'⟩)
        go_roundg (rows.length - (k + 1))
        case measure => omega
        case rel => exact ⟨k + 1, by omega, by omega, by go_num, HB.out.trans (hb'.mono HB.out.size), Lib.hid fun j hj => by rcases (show j < k ∨ j = k by omega) with h9 | rfl; exact HA.out j h9; exact HQ.out⟩
    · have hltz : ¬ (k : Int) < (rows.length : Int) := by omega
      obtain rfl : k = rows.length := by omega
      have HB := Lib.hid hB
      clear hB
      go_wp2_with fail
      go_ret
      exact ⟨by rw [idxN_miss HA.out]; rfl, HB.out⟩
set_option maxRecDepth 100000 in
theorem cont_mem (la : Option Addr) (c : Nat) (rows : List (List Value)) (p : Nat → Bool) (g : Nat) (lb : Array Value) (eg : ∀ args w, (callFunc g args).run Tryz.prog w = .ok (.enter g args) w) (w : World)
    (hrow : RowAt w 2 (.slice la rows.length c) rows) (hp : PredRow g lb rows p w) :
    Calls Tryz.prog 56 #[.slice la rows.length c, .func (.func g) #[] lb] w fun e w' => e = .returned (.bool (anyN p rows.length)) ∧ Below w.heap.size w w' := by
  rw [anyN_iff]
  have hcall := idx_mem la c rows p g lb eg w hrow hp
  obtain ⟨R, hR⟩ : ∃ R, idxN p rows.length = R := ⟨_, rfl⟩
  rw [hR] at hcall ⊢
  clear hR hp hrow
  go_enter Tryz.func56, Tryz.ntmps56
  go_wp2_with (go_at_call 84; refine hcall.mono ?_; rintro e w' ⟨rfl, hb'⟩)
  go_ret
  exact ⟨rfl, hb'⟩
set_option maxRecDepth 100000 in
set_option maxHeartbeats 1000000 in
theorem not_mem (rows : List (List Value)) (q : Nat → Bool) (g : Nat) (eg : ∀ args w, (callFunc g args).run Tryz.prog w = .ok (.enter g args) w) (B : Nat) (w : World) (hlen : ∀ (j : Nat) (r : List Value), rows[j]? = some r → r.length = 2) (hB : B < w.heap.size) (hc : w.cell? ⟨B, 0, none⟩ = some (.func (.func g) #[] #[])) (hp : PredRow g #[] rows q w) :
    PredRow 57 #[.pointer (some ⟨B, 0, none⟩)] rows (fun j => !q j) w := fun W j r hr hb => by
  have hc' : W.cell? ⟨B, 0, none⟩ = some (.func (.func g) #[] #[]) := (hb.cell (p := ⟨B, 0, none⟩) hB).trans hc
  have hBW : B < W.heap.size := Nat.lt_of_lt_of_le hB hb.size
  obtain ⟨c0, c1, rfl⟩ := two (hlen j r hr)
  have hcall := hp (W.alloc (.cells #[c0, c1] 47)) j _ hr (hb.alloc hb.size _)
  have hBW2 : B < (W.alloc (.cells #[c0, c1] 47)).heap.size := by simp; omega
  show Calls Tryz.prog 57 #[.agg #[c0, c1], .pointer (some ⟨B, 0, none⟩)] W fun e w' => e = .returned (.bool (!q j)) ∧ Below W.heap.size W w'
  obtain ⟨Q, hQ⟩ : ∃ Q, q j = Q := ⟨_, rfl⟩
  rw [hQ] at hcall ⊢
  have hne : B ≠ W.heap.size := by omega
  clear hQ hp hr
  change Calls Tryz.prog g #[.agg #[c0, c1]] _ _ at hcall
  go_enter Tryz.func57, Tryz.ntmps57
  go_wp2_with (go_at_fn g; refine hcall.mono ?_; rintro e w' ⟨rfl, hb'⟩)
  go_ret
  exact ⟨rfl, ((Below.refl _ _).alloc (Nat.le_refl _) _).trans (hb'.mono (by simp))⟩
set_option maxRecDepth 100000 in
set_option maxHeartbeats 1000000 in
theorem all_mem (la : Option Addr) (c : Nat) (rows : List (List Value)) (q : Nat → Bool) (g : Nat) (eg : ∀ args w, (callFunc g args).run Tryz.prog w = .ok (.enter g args) w) (w : World)
    (hrow : RowAt w 2 (.slice la rows.length c) rows) (hp : PredRow g #[] rows q w) :
    Calls Tryz.prog 38 #[.slice la rows.length c, .func (.func g) #[] #[]] w fun e w' => e = .returned (.bool (decide (rows.length ≤ 4096) && !anyN (fun j => !q j) rows.length)) ∧ Below w.heap.size w w' := by
  have ea : ∀ args w, (callFunc 57 args).run Tryz.prog w = .ok (.enter 57 args) w := enters_of Tryz.func57 (by kernel_rfl) rfl
  have hB1 : Below w.heap.size w (w.alloc (.cells #[.func (.func g) #[] #[]] 90)) := (Below.refl _ _).alloc (Nat.le_refl _) _
  by_cases hle : rows.length ≤ 4096
  · have hcall := cont_mem la c rows (fun j => !q j) 57 #[.pointer (some ⟨w.heap.size, 0, none⟩)] ea (w.alloc (.cells #[.func (.func g) #[] #[]] 90)) (hrow.later hB1)
      (not_mem rows q g eg w.heap.size _ (fun j r hr => by obtain ⟨_, _, _, _, h⟩ := hrow; exact (h j r hr).1) (by simp) (by simp) (hp.rebase hB1))
    obtain ⟨Q, hQ⟩ : ∃ Q, anyN (fun j => !q j) rows.length = Q := ⟨_, rfl⟩
    rw [hQ] at hcall ⊢
    have hd : decide (rows.length ≤ 4096) = true := decide_eq_true hle
    rw [hd]
    clear hQ hp hrow
    go_enter Tryz.func38, Tryz.ntmps38
    go_wp2_with (go_at_call 56; refine hcall.mono ?_; rintro e w' ⟨rfl, hb'⟩)
    go_ret
    exact ⟨rfl, hB1.trans (hb'.mono (by simp))⟩
  · have hd : decide (rows.length ≤ 4096) = false := decide_eq_false hle
    rw [hd]
    clear hp hrow
    go_enter Tryz.func38, Tryz.ntmps38
    go_wp2_with fail
    go_ret
    exact ⟨rfl, hB1⟩
set_option maxRecDepth 100000 in
set_option maxHeartbeats 2000000 in
theorem idx_glob (la : Option Addr) (c : Nat) (rows : List (List Value)) (p : Nat → Bool) (g : Nat) (lb : Array Value) (eg : ∀ args w, (callFunc g args).run Tryz.prog w = .ok (.enter g args) w) (w : World)
    (hrow : RowAt w 3 (.slice la rows.length c) rows) (hp : PredRow g lb rows p w) :
    Calls Tryz.prog 85 #[.slice la rows.length c, .func (.func g) #[] lb] w fun e w' => e = .returned (.int .i64 (idxN p rows.length)) ∧ Below w.heap.size w w' := by
  obtain ⟨la', c', hv, hle, hr⟩ := hrow
  obtain ⟨rfl, rfl⟩ : la = la' ∧ c = c' := by simp only [Value.slice.injEq] at hv; exact ⟨hv.1, hv.2.2⟩
  have HR := Lib.hid hr
  have HP := Lib.hid hp
  clear hr hp hv
  go_enter Tryz.func85, Tryz.ntmps85
  go_wp2_with fail
  go_loopg [5, 8] rows.length (fun gk _ s8 wr => ∃ k : Nat, k ≤ rows.length ∧ rows.length - k ≤ gk ∧ s8 = .int .i64 k ∧ Below w.heap.size w wr ∧ Hid (∀ j, j < k → p j = false))
  case atStart => exact ⟨0, Nat.zero_le _, by omega, rfl, Below.refl _ w, Lib.hid fun j hj => absurd hj (Nat.not_lt_zero _)⟩
  case round =>
    obtain ⟨k, hk, hg, rfl, hB, HA⟩ := hrel
    by_cases hlt : k < rows.length
    · obtain ⟨r, hrk⟩ : ∃ r, rows[k]? = some r := ⟨_, List.getElem?_eq_getElem hlt⟩
      obtain ⟨hlen, b, off, rfl, hb, hcell⟩ := HR.out k r hrk
      obtain ⟨c0, c1, c2, rfl⟩ := three hlen
      have x0 : wr.cell? ⟨b, off + k * 3, none⟩ = some c0 := (hB.cell (p := ⟨b, off + k * 3 + 0, none⟩) hb).trans (hcell 0 _ rfl)
      have x1 : wr.cell? ⟨b, off + k * 3 + 1, none⟩ = some c1 := (hB.cell (p := ⟨b, off + k * 3 + 1, none⟩) hb).trans (hcell 1 _ rfl)
      have x2 : wr.cell? ⟨b, off + k * 3 + 2, none⟩ = some c2 := (hB.cell (p := ⟨b, off + k * 3 + 2, none⟩) hb).trans (hcell 2 _ rfl)
      have hcall := HP.out wr k _ hrk hB
      have hltz : (k : Int) < (rows.length : Int) := by omega
      have HB := Lib.hid hB
      clear hcell hrk hlen hB
      cases hq : p k with
      | true =>
        rw [hq] at hcall
        have HQ := Lib.hid hq
        clear hq
        go_wp2_with (go_at_fn g; refine hcall.mono ?_; rintro e w' ⟨rfl, hb'⟩)
        go_ret
        exact ⟨by rw [idxN_hit hlt HQ.out HA.out]; rfl, HB.out.trans (hb'.mono HB.out.size)⟩
      | false =>
        rw [hq] at hcall
        have HQ := Lib.hid hq
        clear hq
        go_wp2_with (go_at_fn g; refine hcall.mono ?_; rintro e w' ⟨rfl, hb'⟩)
        go_roundg (rows.length - (k + 1))
        case measure => omega
        case rel => exact ⟨k + 1, by omega, by omega, by go_num, HB.out.trans (hb'.mono HB.out.size), Lib.hid fun j hj => by rcases (show j < k ∨ j = k by omega) with h9 | rfl; exact HA.out j h9; exact HQ.out⟩
    · have hltz : ¬ (k : Int) < (rows.length : Int) := by omega
      obtain rfl : k = rows.length := by omega
      have HB := Lib.hid hB
      clear hB
      go_wp2_with fail
      go_ret
      exact ⟨by rw [idxN_miss HA.out]; rfl, HB.out⟩
set_option maxRecDepth 100000 in
theorem cont_glob (la : Option Addr) (c : Nat) (rows : List (List Value)) (p : Nat → Bool) (g : Nat) (lb : Array Value) (eg : ∀ args w, (callFunc g args).run Tryz.prog w = .ok (.enter g args) w) (w : World)
    (hrow : RowAt w 3 (.slice la rows.length c) rows) (hp : PredRow g lb rows p w) :
    Calls Tryz.prog 58 #[.slice la rows.length c, .func (.func g) #[] lb] w fun e w' => e = .returned (.bool (anyN p rows.length)) ∧ Below w.heap.size w w' := by
  rw [anyN_iff]
  have hcall := idx_glob la c rows p g lb eg w hrow hp
  obtain ⟨R, hR⟩ : ∃ R, idxN p rows.length = R := ⟨_, rfl⟩
  rw [hR] at hcall ⊢
  clear hR hp hrow
  go_enter Tryz.func58, Tryz.ntmps58
  go_wp2_with (go_at_call 85; refine hcall.mono ?_; rintro e w' ⟨rfl, hb'⟩)
  go_ret
  exact ⟨rfl, hb'⟩
set_option maxRecDepth 100000 in
set_option maxHeartbeats 1000000 in
theorem not_glob (rows : List (List Value)) (q : Nat → Bool) (g : Nat) (eg : ∀ args w, (callFunc g args).run Tryz.prog w = .ok (.enter g args) w) (B : Nat) (w : World) (hlen : ∀ (j : Nat) (r : List Value), rows[j]? = some r → r.length = 3) (hB : B < w.heap.size) (hc : w.cell? ⟨B, 0, none⟩ = some (.func (.func g) #[] #[])) (hp : PredRow g #[] rows q w) :
    PredRow 59 #[.pointer (some ⟨B, 0, none⟩)] rows (fun j => !q j) w := fun W j r hr hb => by
  have hc' : W.cell? ⟨B, 0, none⟩ = some (.func (.func g) #[] #[]) := (hb.cell (p := ⟨B, 0, none⟩) hB).trans hc
  have hBW : B < W.heap.size := Nat.lt_of_lt_of_le hB hb.size
  obtain ⟨c0, c1, c2, rfl⟩ := three (hlen j r hr)
  have hcall := hp (W.alloc (.cells #[c0, c1, c2] 71)) j _ hr (hb.alloc hb.size _)
  have hBW2 : B < (W.alloc (.cells #[c0, c1, c2] 71)).heap.size := by simp; omega
  show Calls Tryz.prog 59 #[.agg #[c0, c1, c2], .pointer (some ⟨B, 0, none⟩)] W fun e w' => e = .returned (.bool (!q j)) ∧ Below W.heap.size W w'
  obtain ⟨Q, hQ⟩ : ∃ Q, q j = Q := ⟨_, rfl⟩
  rw [hQ] at hcall ⊢
  have hne : B ≠ W.heap.size := by omega
  clear hQ hp hr
  change Calls Tryz.prog g #[.agg #[c0, c1, c2]] _ _ at hcall
  go_enter Tryz.func59, Tryz.ntmps59
  go_wp2_with (go_at_fn g; refine hcall.mono ?_; rintro e w' ⟨rfl, hb'⟩)
  go_ret
  exact ⟨rfl, ((Below.refl _ _).alloc (Nat.le_refl _) _).trans (hb'.mono (by simp))⟩
set_option maxRecDepth 100000 in
set_option maxHeartbeats 1000000 in
theorem all_glob (la : Option Addr) (c : Nat) (rows : List (List Value)) (q : Nat → Bool) (g : Nat) (eg : ∀ args w, (callFunc g args).run Tryz.prog w = .ok (.enter g args) w) (w : World)
    (hrow : RowAt w 3 (.slice la rows.length c) rows) (hp : PredRow g #[] rows q w) :
    Calls Tryz.prog 40 #[.slice la rows.length c, .func (.func g) #[] #[]] w fun e w' => e = .returned (.bool (decide (rows.length ≤ 4096) && !anyN (fun j => !q j) rows.length)) ∧ Below w.heap.size w w' := by
  have ea : ∀ args w, (callFunc 59 args).run Tryz.prog w = .ok (.enter 59 args) w := enters_of Tryz.func59 (by kernel_rfl) rfl
  have hB1 : Below w.heap.size w (w.alloc (.cells #[.func (.func g) #[] #[]] 92)) := (Below.refl _ _).alloc (Nat.le_refl _) _
  by_cases hle : rows.length ≤ 4096
  · have hcall := cont_glob la c rows (fun j => !q j) 59 #[.pointer (some ⟨w.heap.size, 0, none⟩)] ea (w.alloc (.cells #[.func (.func g) #[] #[]] 92)) (hrow.later hB1)
      (not_glob rows q g eg w.heap.size _ (fun j r hr => by obtain ⟨_, _, _, _, h⟩ := hrow; exact (h j r hr).1) (by simp) (by simp) (hp.rebase hB1))
    obtain ⟨Q, hQ⟩ : ∃ Q, anyN (fun j => !q j) rows.length = Q := ⟨_, rfl⟩
    rw [hQ] at hcall ⊢
    have hd : decide (rows.length ≤ 4096) = true := decide_eq_true hle
    rw [hd]
    clear hQ hp hrow
    go_enter Tryz.func40, Tryz.ntmps40
    go_wp2_with (go_at_call 58; refine hcall.mono ?_; rintro e w' ⟨rfl, hb'⟩)
    go_ret
    exact ⟨rfl, hB1.trans (hb'.mono (by simp))⟩
  · have hd : decide (rows.length ≤ 4096) = false := decide_eq_false hle
    rw [hd]
    clear hp hrow
    go_enter Tryz.func40, Tryz.ntmps40
    go_wp2_with fail
    go_ret
    exact ⟨rfl, hB1⟩
set_option maxRecDepth 100000 in
set_option maxHeartbeats 2000000 in
theorem idx_exp (la : Option Addr) (c : Nat) (rows : List (List Value)) (p : Nat → Bool) (g : Nat) (lb : Array Value) (eg : ∀ args w, (callFunc g args).run Tryz.prog w = .ok (.enter g args) w) (w : World)
    (hrow : RowAt w 3 (.slice la rows.length c) rows) (hp : PredRow g lb rows p w) :
    Calls Tryz.prog 86 #[.slice la rows.length c, .func (.func g) #[] lb] w fun e w' => e = .returned (.int .i64 (idxN p rows.length)) ∧ Below w.heap.size w w' := by
  obtain ⟨la', c', hv, hle, hr⟩ := hrow
  obtain ⟨rfl, rfl⟩ : la = la' ∧ c = c' := by simp only [Value.slice.injEq] at hv; exact ⟨hv.1, hv.2.2⟩
  have HR := Lib.hid hr
  have HP := Lib.hid hp
  clear hr hp hv
  go_enter Tryz.func86, Tryz.ntmps86
  go_wp2_with fail
  go_loopg [5, 8] rows.length (fun gk _ s8 wr => ∃ k : Nat, k ≤ rows.length ∧ rows.length - k ≤ gk ∧ s8 = .int .i64 k ∧ Below w.heap.size w wr ∧ Hid (∀ j, j < k → p j = false))
  case atStart => exact ⟨0, Nat.zero_le _, by omega, rfl, Below.refl _ w, Lib.hid fun j hj => absurd hj (Nat.not_lt_zero _)⟩
  case round =>
    obtain ⟨k, hk, hg, rfl, hB, HA⟩ := hrel
    by_cases hlt : k < rows.length
    · obtain ⟨r, hrk⟩ : ∃ r, rows[k]? = some r := ⟨_, List.getElem?_eq_getElem hlt⟩
      obtain ⟨hlen, b, off, rfl, hb, hcell⟩ := HR.out k r hrk
      obtain ⟨c0, c1, c2, rfl⟩ := three hlen
      have x0 : wr.cell? ⟨b, off + k * 3, none⟩ = some c0 := (hB.cell (p := ⟨b, off + k * 3 + 0, none⟩) hb).trans (hcell 0 _ rfl)
      have x1 : wr.cell? ⟨b, off + k * 3 + 1, none⟩ = some c1 := (hB.cell (p := ⟨b, off + k * 3 + 1, none⟩) hb).trans (hcell 1 _ rfl)
      have x2 : wr.cell? ⟨b, off + k * 3 + 2, none⟩ = some c2 := (hB.cell (p := ⟨b, off + k * 3 + 2, none⟩) hb).trans (hcell 2 _ rfl)
      have hcall := HP.out wr k _ hrk hB
      have hltz : (k : Int) < (rows.length : Int) := by omega
      have HB := Lib.hid hB
      clear hcell hrk hlen hB
      cases hq : p k with
      | true =>
        rw [hq] at hcall
        have HQ := Lib.hid hq
        clear hq
        go_wp2_with (go_at_fn g; refine hcall.mono ?_; rintro e w' ⟨rfl, hb'⟩)
        go_ret
        exact ⟨by rw [idxN_hit hlt HQ.out HA.out]; rfl, HB.out.trans (hb'.mono HB.out.size)⟩
      | false =>
        rw [hq] at hcall
        have HQ := Lib.hid hq
        clear hq
        go_wp2_with (go_at_fn g; refine hcall.mono ?_; rintro e w' ⟨rfl, hb'⟩)
        go_roundg (rows.length - (k + 1))
        case measure => omega
        case rel => exact ⟨k + 1, by omega, by omega, by go_num, HB.out.trans (hb'.mono HB.out.size), Lib.hid fun j hj => by rcases (show j < k ∨ j = k by omega) with h9 | rfl; exact HA.out j h9; exact HQ.out⟩
    · have hltz : ¬ (k : Int) < (rows.length : Int) := by omega
      obtain rfl : k = rows.length := by omega
      have HB := Lib.hid hB
      clear hB
      go_wp2_with fail
      go_ret
      exact ⟨by rw [idxN_miss HA.out]; rfl, HB.out⟩
set_option maxRecDepth 100000 in
theorem cont_exp (la : Option Addr) (c : Nat) (rows : List (List Value)) (p : Nat → Bool) (g : Nat) (lb : Array Value) (eg : ∀ args w, (callFunc g args).run Tryz.prog w = .ok (.enter g args) w) (w : World)
    (hrow : RowAt w 3 (.slice la rows.length c) rows) (hp : PredRow g lb rows p w) :
    Calls Tryz.prog 60 #[.slice la rows.length c, .func (.func g) #[] lb] w fun e w' => e = .returned (.bool (anyN p rows.length)) ∧ Below w.heap.size w w' := by
  rw [anyN_iff]
  have hcall := idx_exp la c rows p g lb eg w hrow hp
  obtain ⟨R, hR⟩ : ∃ R, idxN p rows.length = R := ⟨_, rfl⟩
  rw [hR] at hcall ⊢
  clear hR hp hrow
  go_enter Tryz.func60, Tryz.ntmps60
  go_wp2_with (go_at_call 86; refine hcall.mono ?_; rintro e w' ⟨rfl, hb'⟩)
  go_ret
  exact ⟨rfl, hb'⟩
set_option maxRecDepth 100000 in
set_option maxHeartbeats 1000000 in
theorem not_exp (rows : List (List Value)) (q : Nat → Bool) (g : Nat) (eg : ∀ args w, (callFunc g args).run Tryz.prog w = .ok (.enter g args) w) (B : Nat) (w : World) (hlen : ∀ (j : Nat) (r : List Value), rows[j]? = some r → r.length = 3) (hB : B < w.heap.size) (hc : w.cell? ⟨B, 0, none⟩ = some (.func (.func g) #[] #[])) (hp : PredRow g #[] rows q w) :
    PredRow 61 #[.pointer (some ⟨B, 0, none⟩)] rows (fun j => !q j) w := fun W j r hr hb => by
  have hc' : W.cell? ⟨B, 0, none⟩ = some (.func (.func g) #[] #[]) := (hb.cell (p := ⟨B, 0, none⟩) hB).trans hc
  have hBW : B < W.heap.size := Nat.lt_of_lt_of_le hB hb.size
  obtain ⟨c0, c1, c2, rfl⟩ := three (hlen j r hr)
  have hcall := hp (W.alloc (.cells #[c0, c1, c2] 45)) j _ hr (hb.alloc hb.size _)
  have hBW2 : B < (W.alloc (.cells #[c0, c1, c2] 45)).heap.size := by simp; omega
  show Calls Tryz.prog 61 #[.agg #[c0, c1, c2], .pointer (some ⟨B, 0, none⟩)] W fun e w' => e = .returned (.bool (!q j)) ∧ Below W.heap.size W w'
  obtain ⟨Q, hQ⟩ : ∃ Q, q j = Q := ⟨_, rfl⟩
  rw [hQ] at hcall ⊢
  have hne : B ≠ W.heap.size := by omega
  clear hQ hp hr
  change Calls Tryz.prog g #[.agg #[c0, c1, c2]] _ _ at hcall
  go_enter Tryz.func61, Tryz.ntmps61
  go_wp2_with (go_at_fn g; refine hcall.mono ?_; rintro e w' ⟨rfl, hb'⟩)
  go_ret
  exact ⟨rfl, ((Below.refl _ _).alloc (Nat.le_refl _) _).trans (hb'.mono (by simp))⟩
set_option maxRecDepth 100000 in
set_option maxHeartbeats 1000000 in
theorem all_exp (la : Option Addr) (c : Nat) (rows : List (List Value)) (q : Nat → Bool) (g : Nat) (eg : ∀ args w, (callFunc g args).run Tryz.prog w = .ok (.enter g args) w) (w : World)
    (hrow : RowAt w 3 (.slice la rows.length c) rows) (hp : PredRow g #[] rows q w) :
    Calls Tryz.prog 42 #[.slice la rows.length c, .func (.func g) #[] #[]] w fun e w' => e = .returned (.bool (decide (rows.length ≤ 4096) && !anyN (fun j => !q j) rows.length)) ∧ Below w.heap.size w w' := by
  have ea : ∀ args w, (callFunc 61 args).run Tryz.prog w = .ok (.enter 61 args) w := enters_of Tryz.func61 (by kernel_rfl) rfl
  have hB1 : Below w.heap.size w (w.alloc (.cells #[.func (.func g) #[] #[]] 95)) := (Below.refl _ _).alloc (Nat.le_refl _) _
  by_cases hle : rows.length ≤ 4096
  · have hcall := cont_exp la c rows (fun j => !q j) 61 #[.pointer (some ⟨w.heap.size, 0, none⟩)] ea (w.alloc (.cells #[.func (.func g) #[] #[]] 95)) (hrow.later hB1)
      (not_exp rows q g eg w.heap.size _ (fun j r hr => by obtain ⟨_, _, _, _, h⟩ := hrow; exact (h j r hr).1) (by simp) (by simp) (hp.rebase hB1))
    obtain ⟨Q, hQ⟩ : ∃ Q, anyN (fun j => !q j) rows.length = Q := ⟨_, rfl⟩
    rw [hQ] at hcall ⊢
    have hd : decide (rows.length ≤ 4096) = true := decide_eq_true hle
    rw [hd]
    clear hQ hp hrow
    go_enter Tryz.func42, Tryz.ntmps42
    go_wp2_with (go_at_call 60; refine hcall.mono ?_; rintro e w' ⟨rfl, hb'⟩)
    go_ret
    exact ⟨rfl, hB1.trans (hb'.mono (by simp))⟩
  · have hd : decide (rows.length ≤ 4096) = false := decide_eq_false hle
    rw [hd]
    clear hp hrow
    go_enter Tryz.func42, Tryz.ntmps42
    go_wp2_with fail
    go_ret
    exact ⟨rfl, hB1⟩
set_option maxRecDepth 100000 in
set_option maxHeartbeats 2000000 in
theorem idx_data (la : Option Addr) (c : Nat) (rows : List (List Value)) (p : Nat → Bool) (g : Nat) (lb : Array Value) (eg : ∀ args w, (callFunc g args).run Tryz.prog w = .ok (.enter g args) w) (w : World)
    (hrow : RowAt w 2 (.slice la rows.length c) rows) (hp : PredRow g lb rows p w) :
    Calls Tryz.prog 88 #[.slice la rows.length c, .func (.func g) #[] lb] w fun e w' => e = .returned (.int .i64 (idxN p rows.length)) ∧ Below w.heap.size w w' := by
  obtain ⟨la', c', hv, hle, hr⟩ := hrow
  obtain ⟨rfl, rfl⟩ : la = la' ∧ c = c' := by simp only [Value.slice.injEq] at hv; exact ⟨hv.1, hv.2.2⟩
  have HR := Lib.hid hr
  have HP := Lib.hid hp
  clear hr hp hv
  go_enter Tryz.func88, Tryz.ntmps88
  go_wp2_with fail
  go_loopg [5, 8] rows.length (fun gk _ s8 wr => ∃ k : Nat, k ≤ rows.length ∧ rows.length - k ≤ gk ∧ s8 = .int .i64 k ∧ Below w.heap.size w wr ∧ Hid (∀ j, j < k → p j = false))
  case atStart => exact ⟨0, Nat.zero_le _, by omega, rfl, Below.refl _ w, Lib.hid fun j hj => absurd hj (Nat.not_lt_zero _)⟩
  case round =>
    obtain ⟨k, hk, hg, rfl, hB, HA⟩ := hrel
    by_cases hlt : k < rows.length
    · obtain ⟨r, hrk⟩ : ∃ r, rows[k]? = some r := ⟨_, List.getElem?_eq_getElem hlt⟩
      obtain ⟨hlen, b, off, rfl, hb, hcell⟩ := HR.out k r hrk
      obtain ⟨c0, c1, rfl⟩ := two hlen
      have x0 : wr.cell? ⟨b, off + k * 2, none⟩ = some c0 := (hB.cell (p := ⟨b, off + k * 2 + 0, none⟩) hb).trans (hcell 0 _ rfl)
      have x1 : wr.cell? ⟨b, off + k * 2 + 1, none⟩ = some c1 := (hB.cell (p := ⟨b, off + k * 2 + 1, none⟩) hb).trans (hcell 1 _ rfl)
      have hcall := HP.out wr k _ hrk hB
      have hltz : (k : Int) < (rows.length : Int) := by omega
      have HB := Lib.hid hB
      clear hcell hrk hlen hB
      cases hq : p k with
      | true =>
        rw [hq] at hcall
        have HQ := Lib.hid hq
        clear hq
        go_wp2_with (go_at_fn g; refine hcall.mono ?_; rintro e w' ⟨rfl, hb'⟩)
        go_ret
        exact ⟨by rw [idxN_hit hlt HQ.out HA.out]; rfl, HB.out.trans (hb'.mono HB.out.size)⟩
      | false =>
        rw [hq] at hcall
        have HQ := Lib.hid hq
        clear hq
        go_wp2_with (go_at_fn g; refine hcall.mono ?_; rintro e w' ⟨rfl, hb'⟩)
        go_roundg (rows.length - (k + 1))
        case measure => omega
        case rel => exact ⟨k + 1, by omega, by omega, by go_num, HB.out.trans (hb'.mono HB.out.size), Lib.hid fun j hj => by rcases (show j < k ∨ j = k by omega) with h9 | rfl; exact HA.out j h9; exact HQ.out⟩
    · have hltz : ¬ (k : Int) < (rows.length : Int) := by omega
      obtain rfl : k = rows.length := by omega
      have HB := Lib.hid hB
      clear hB
      go_wp2_with fail
      go_ret
      exact ⟨by rw [idxN_miss HA.out]; rfl, HB.out⟩
set_option maxRecDepth 100000 in
theorem cont_data (la : Option Addr) (c : Nat) (rows : List (List Value)) (p : Nat → Bool) (g : Nat) (lb : Array Value) (eg : ∀ args w, (callFunc g args).run Tryz.prog w = .ok (.enter g args) w) (w : World)
    (hrow : RowAt w 2 (.slice la rows.length c) rows) (hp : PredRow g lb rows p w) :
    Calls Tryz.prog 63 #[.slice la rows.length c, .func (.func g) #[] lb] w fun e w' => e = .returned (.bool (anyN p rows.length)) ∧ Below w.heap.size w w' := by
  rw [anyN_iff]
  have hcall := idx_data la c rows p g lb eg w hrow hp
  obtain ⟨R, hR⟩ : ∃ R, idxN p rows.length = R := ⟨_, rfl⟩
  rw [hR] at hcall ⊢
  clear hR hp hrow
  go_enter Tryz.func63, Tryz.ntmps63
  go_wp2_with (go_at_call 88; refine hcall.mono ?_; rintro e w' ⟨rfl, hb'⟩)
  go_ret
  exact ⟨rfl, hb'⟩
set_option maxRecDepth 100000 in
set_option maxHeartbeats 1000000 in
theorem not_data (rows : List (List Value)) (q : Nat → Bool) (g : Nat) (eg : ∀ args w, (callFunc g args).run Tryz.prog w = .ok (.enter g args) w) (B : Nat) (w : World) (hlen : ∀ (j : Nat) (r : List Value), rows[j]? = some r → r.length = 2) (hB : B < w.heap.size) (hc : w.cell? ⟨B, 0, none⟩ = some (.func (.func g) #[] #[])) (hp : PredRow g #[] rows q w) :
    PredRow 64 #[.pointer (some ⟨B, 0, none⟩)] rows (fun j => !q j) w := fun W j r hr hb => by
  have hc' : W.cell? ⟨B, 0, none⟩ = some (.func (.func g) #[] #[]) := (hb.cell (p := ⟨B, 0, none⟩) hB).trans hc
  have hBW : B < W.heap.size := Nat.lt_of_lt_of_le hB hb.size
  obtain ⟨c0, c1, rfl⟩ := two (hlen j r hr)
  have hcall := hp (W.alloc (.cells #[c0, c1] 73)) j _ hr (hb.alloc hb.size _)
  have hBW2 : B < (W.alloc (.cells #[c0, c1] 73)).heap.size := by simp; omega
  show Calls Tryz.prog 64 #[.agg #[c0, c1], .pointer (some ⟨B, 0, none⟩)] W fun e w' => e = .returned (.bool (!q j)) ∧ Below W.heap.size W w'
  obtain ⟨Q, hQ⟩ : ∃ Q, q j = Q := ⟨_, rfl⟩
  rw [hQ] at hcall ⊢
  have hne : B ≠ W.heap.size := by omega
  clear hQ hp hr
  change Calls Tryz.prog g #[.agg #[c0, c1]] _ _ at hcall
  go_enter Tryz.func64, Tryz.ntmps64
  go_wp2_with (go_at_fn g; refine hcall.mono ?_; rintro e w' ⟨rfl, hb'⟩)
  go_ret
  exact ⟨rfl, ((Below.refl _ _).alloc (Nat.le_refl _) _).trans (hb'.mono (by simp))⟩
set_option maxRecDepth 100000 in
set_option maxHeartbeats 1000000 in
theorem all_data (la : Option Addr) (c : Nat) (rows : List (List Value)) (q : Nat → Bool) (g : Nat) (eg : ∀ args w, (callFunc g args).run Tryz.prog w = .ok (.enter g args) w) (w : World)
    (hrow : RowAt w 2 (.slice la rows.length c) rows) (hp : PredRow g #[] rows q w) :
    Calls Tryz.prog 45 #[.slice la rows.length c, .func (.func g) #[] #[]] w fun e w' => e = .returned (.bool (decide (rows.length ≤ 4096) && !anyN (fun j => !q j) rows.length)) ∧ Below w.heap.size w w' := by
  have ea : ∀ args w, (callFunc 64 args).run Tryz.prog w = .ok (.enter 64 args) w := enters_of Tryz.func64 (by kernel_rfl) rfl
  have hB1 : Below w.heap.size w (w.alloc (.cells #[.func (.func g) #[] #[]] 97)) := (Below.refl _ _).alloc (Nat.le_refl _) _
  by_cases hle : rows.length ≤ 4096
  · have hcall := cont_data la c rows (fun j => !q j) 64 #[.pointer (some ⟨w.heap.size, 0, none⟩)] ea (w.alloc (.cells #[.func (.func g) #[] #[]] 97)) (hrow.later hB1)
      (not_data rows q g eg w.heap.size _ (fun j r hr => by obtain ⟨_, _, _, _, h⟩ := hrow; exact (h j r hr).1) (by simp) (by simp) (hp.rebase hB1))
    obtain ⟨Q, hQ⟩ : ∃ Q, anyN (fun j => !q j) rows.length = Q := ⟨_, rfl⟩
    rw [hQ] at hcall ⊢
    have hd : decide (rows.length ≤ 4096) = true := decide_eq_true hle
    rw [hd]
    clear hQ hp hrow
    go_enter Tryz.func45, Tryz.ntmps45
    go_wp2_with (go_at_call 63; refine hcall.mono ?_; rintro e w' ⟨rfl, hb'⟩)
    go_ret
    exact ⟨rfl, hB1.trans (hb'.mono (by simp))⟩
  · have hd : decide (rows.length ≤ 4096) = false := decide_eq_false hle
    rw [hd]
    clear hp hrow
    go_enter Tryz.func45, Tryz.ntmps45
    go_wp2_with fail
    go_ret
    exact ⟨rfl, hB1⟩
set_option maxRecDepth 100000 in
set_option maxHeartbeats 2000000 in
theorem idx_ins (la : Option Addr) (c : Nat) (rows : List (List Value)) (p : Nat → Bool) (g : Nat) (lb : Array Value) (eg : ∀ args w, (callFunc g args).run Tryz.prog w = .ok (.enter g args) w) (w : World)
    (hrow : RowAt w 4 (.slice la rows.length c) rows) (hp : PredRow g lb rows p w) :
    Calls Tryz.prog 53 #[.slice la rows.length c, .func (.func g) #[] lb] w fun e w' => e = .returned (.int .i64 (idxN p rows.length)) ∧ Below w.heap.size w w' := by
  obtain ⟨la', c', hv, hle, hr⟩ := hrow
  obtain ⟨rfl, rfl⟩ : la = la' ∧ c = c' := by simp only [Value.slice.injEq] at hv; exact ⟨hv.1, hv.2.2⟩
  have HR := Lib.hid hr
  have HP := Lib.hid hp
  clear hr hp hv
  go_enter Tryz.func53, Tryz.ntmps53
  go_wp2_with fail
  go_loopg [5, 8] rows.length (fun gk _ s8 wr => ∃ k : Nat, k ≤ rows.length ∧ rows.length - k ≤ gk ∧ s8 = .int .i64 k ∧ Below w.heap.size w wr ∧ Hid (∀ j, j < k → p j = false))
  case atStart => exact ⟨0, Nat.zero_le _, by omega, rfl, Below.refl _ w, Lib.hid fun j hj => absurd hj (Nat.not_lt_zero _)⟩
  case round =>
    obtain ⟨k, hk, hg, rfl, hB, HA⟩ := hrel
    by_cases hlt : k < rows.length
    · obtain ⟨r, hrk⟩ : ∃ r, rows[k]? = some r := ⟨_, List.getElem?_eq_getElem hlt⟩
      obtain ⟨hlen, b, off, rfl, hb, hcell⟩ := HR.out k r hrk
      obtain ⟨c0, c1, c2, c3, rfl⟩ := four hlen
      have x0 : wr.cell? ⟨b, off + k * 4, none⟩ = some c0 := (hB.cell (p := ⟨b, off + k * 4 + 0, none⟩) hb).trans (hcell 0 _ rfl)
      have x1 : wr.cell? ⟨b, off + k * 4 + 1, none⟩ = some c1 := (hB.cell (p := ⟨b, off + k * 4 + 1, none⟩) hb).trans (hcell 1 _ rfl)
      have x2 : wr.cell? ⟨b, off + k * 4 + 2, none⟩ = some c2 := (hB.cell (p := ⟨b, off + k * 4 + 2, none⟩) hb).trans (hcell 2 _ rfl)
      have x3 : wr.cell? ⟨b, off + k * 4 + 3, none⟩ = some c3 := (hB.cell (p := ⟨b, off + k * 4 + 3, none⟩) hb).trans (hcell 3 _ rfl)
      have hcall := HP.out wr k _ hrk hB
      have hltz : (k : Int) < (rows.length : Int) := by omega
      have HB := Lib.hid hB
      clear hcell hrk hlen hB
      cases hq : p k with
      | true =>
        rw [hq] at hcall
        have HQ := Lib.hid hq
        clear hq
        go_wp2_with (go_at_fn g; refine hcall.mono ?_; rintro e w' ⟨rfl, hb'⟩)
        go_ret
        exact ⟨by rw [idxN_hit hlt HQ.out HA.out]; rfl, HB.out.trans (hb'.mono HB.out.size)⟩
      | false =>
        rw [hq] at hcall
        have HQ := Lib.hid hq
        clear hq
        go_wp2_with (go_at_fn g; refine hcall.mono ?_; rintro e w' ⟨rfl, hb'⟩)
        go_roundg (rows.length - (k + 1))
        case measure => omega
        case rel => exact ⟨k + 1, by omega, by omega, by go_num, HB.out.trans (hb'.mono HB.out.size), Lib.hid fun j hj => by rcases (show j < k ∨ j = k by omega) with h9 | rfl; exact HA.out j h9; exact HQ.out⟩
    · have hltz : ¬ (k : Int) < (rows.length : Int) := by omega
      obtain rfl : k = rows.length := by omega
      have HB := Lib.hid hB
      clear hB
      go_wp2_with fail
      go_ret
      exact ⟨by rw [idxN_miss HA.out]; rfl, HB.out⟩
set_option maxRecDepth 100000 in
theorem cont_ins (la : Option Addr) (c : Nat) (rows : List (List Value)) (p : Nat → Bool) (g : Nat) (lb : Array Value) (eg : ∀ args w, (callFunc g args).run Tryz.prog w = .ok (.enter g args) w) (w : World)
    (hrow : RowAt w 4 (.slice la rows.length c) rows) (hp : PredRow g lb rows p w) :
    Calls Tryz.prog 35 #[.slice la rows.length c, .func (.func g) #[] lb] w fun e w' => e = .returned (.bool (anyN p rows.length)) ∧ Below w.heap.size w w' := by
  rw [anyN_iff]
  have hcall := idx_ins la c rows p g lb eg w hrow hp
  obtain ⟨R, hR⟩ : ∃ R, idxN p rows.length = R := ⟨_, rfl⟩
  rw [hR] at hcall ⊢
  clear hR hp hrow
  go_enter Tryz.func35, Tryz.ntmps35
  go_wp2_with (go_at_call 53; refine hcall.mono ?_; rintro e w' ⟨rfl, hb'⟩)
  go_ret
  exact ⟨rfl, hb'⟩
end Go.Proofs.YthcjgdmmpopplaaGreatDoor.Mod
