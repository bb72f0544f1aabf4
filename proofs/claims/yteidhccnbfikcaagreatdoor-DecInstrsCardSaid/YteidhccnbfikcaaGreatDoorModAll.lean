/-
  What package module's all, and slices.ContainsFunc, slices.IndexFunc, answer of a slice of structs. No condition beyond what each theorem names.
-/
import Derived.Test.YteidhccnbfikcaaGreatDoorModDefs
import Derived.Deep.LoopGhost
namespace Go.Proofs.YteidhccnbfikcaaGreatDoor.Mod
open Go.RowKit Go.Maps Go.Proofs.YteidhccnbfikcaaGreatDoor.Op
set_option linter.unusedVariables false
set_option maxRecDepth 100000 in
set_option maxHeartbeats 2000000 in
theorem idx_ft (la : Option Addr) (c : Nat) (rows : List (List Value)) (p : Nat → Bool) (g : Nat) (lb : Array Value) (eg : ∀ args w, (callFunc g args).run Tryz.prog w = .ok (.enter g args) w) (w : World)
    (hrow : RowAt w 2 (.slice la rows.length c) rows) (hp : PredRow g lb rows p w) :
    Calls Tryz.prog 213 #[.slice la rows.length c, .func (.func g) #[] lb] w fun e w' => e = .returned (.int .i64 (idxN p rows.length)) ∧ Below w.heap.size w w' := by
  obtain ⟨la', c', hv, hle, hr⟩ := hrow
  obtain ⟨rfl, rfl⟩ : la = la' ∧ c = c' := by simp only [Value.slice.injEq] at hv; exact ⟨hv.1, hv.2.2⟩
  have HR := Lib.hid hr
  have HP := Lib.hid hp
  clear hr hp hv
  go_enter Tryz.func213, Tryz.ntmps213
  go_wp2_with fail
  go_loopg [5, 8] rows.length (fun gk _ s8 wr => ∃ k : Nat, k ≤ rows.length ∧ rows.length - k ≤ gk ∧ s8 = .int .i64 k ∧ Below w.heap.size w wr ∧ Hid (∀ j, j < k → p j = false))
  case atStart => exact ⟨0, Nat.zero_le _, by omega, rfl, Below.refl _ w, Lib.hid fun j hj => absurd hj (Nat.not_lt_zero _)⟩
  case round =>
    obtain ⟨k, hk, hg, rfl, hB, HA⟩ := hrel
    by_cases hlt : k < rows.length
    · obtain ⟨r, hrk⟩ : ∃ r, rows[k]? = some r := ⟨_, List.getElem?_eq_getElem hlt⟩
      obtain ⟨hlen, b, off, rfl, hb, hcell⟩ := HR.out k r hrk
      obtain ⟨c0, c1, rfl⟩ := two hlen
      have x0 : wr.cell? ⟨b, off + k * 2, none⟩ = some c0 := (hB.cell (p := ⟨b, off + k * 2 + 0, none⟩) hb).trans (hcell 0 _ rfl)
      have x1 : wr.cell? ⟨b, off + k * 2 + 1, none⟩ = some c1 := (hB.cell (p := ⟨b, off + k * 2 + 1, none⟩) hb).trans (hcell 1 _ rfl)
      have hcall := HP.out wr k _ hrk hB
      have hltz : (k : Int) < (rows.length : Int) := by omega
      have HB := Lib.hid hB
      clear hcell hrk hlen hB
      cases hq : p k with
      | true =>
        rw [hq] at hcall
        have HQ := Lib.hid hq
        clear hq
        go_wp2_with (go_at_fn g; refine hcall.mono ?_; rintro e w' ⟨rfl, hb'⟩)
        go_ret
        exact ⟨by rw [idxN_hit hlt HQ.out HA.out]; rfl, HB.out.trans (hb'.mono HB.out.size)⟩
      | false =>
        rw [hq] at hcall
        have HQ := Lib.hid hq
        clear hq
        go_wp2_with (go_at_fn g; refine hcall.mono ?_; rintro e w' ⟨rfl, hb'⟩)
        go_roundg (rows.length - (k + 1))
        case measure => omega
        case rel => exact ⟨k + 1, by omega, by omega, by go_num, HB.out.trans (hb'.mono HB.out.size), Lib.hid fun j hj => by rcases (show j < k ∨ j = k by omega) with h9 | rfl; exact HA.out j h9; exact HQ.out⟩
    · have hltz : ¬ (k : Int) < (rows.length : Int) := by omega
      obtain rfl : k = rows.length := by omega
      have HB := Lib.hid hB
      clear hB
      go_wp2_with fail
      go_ret
      exact ⟨by rw [idxN_miss HA.out]; rfl, HB.out⟩
set_option maxRecDepth 100000 in
theorem cont_ft (la : Option Addr) (c : Nat) (rows : List (List Value)) (p : Nat → Bool) (g : Nat) (lb : Array Value) (eg : ∀ args w, (callFunc g args).run Tryz.prog w = .ok (.enter g args) w) (w : World)
    (hrow : RowAt w 2 (.slice la rows.length c) rows) (hp : PredRow g lb rows p w) :
    Calls Tryz.prog 164 #[.slice la rows.length c, .func (.func g) #[] lb] w fun e w' => e = .returned (.bool (anyN p rows.length)) ∧ Below w.heap.size w w' := by
  rw [anyN_iff]
  have hcall := idx_ft la c rows p g lb eg w hrow hp
  obtain ⟨R, hR⟩ : ∃ R, idxN p rows.length = R := ⟨_, rfl⟩
  rw [hR] at hcall ⊢
  clear hR hp hrow
  go_enter Tryz.func164, Tryz.ntmps164
  go_wp2_with (go_at_call 213; refine hcall.mono ?_; rintro e w' ⟨rfl, hb'⟩)
  go_ret
  exact ⟨rfl, hb'⟩
set_option maxRecDepth 100000 in
set_option maxHeartbeats 1000000 in
theorem not_ft (rows : List (List Value)) (q : Nat → Bool) (g : Nat) (eg : ∀ args w, (callFunc g args).run Tryz.prog w = .ok (.enter g args) w) (B : Nat) (w : World) (hlen : ∀ (j : Nat) (r : List Value), rows[j]? = some r → r.length = 2) (hB : B < w.heap.size) (hc : w.cell? ⟨B, 0, none⟩ = some (.func (.func g) #[] #[])) (hp : PredRow g #[] rows q w) :
    PredRow 165 #[.pointer (some ⟨B, 0, none⟩)] rows (fun j => !q j) w := fun W j r hr hb => by
  have hc' : W.cell? ⟨B, 0, none⟩ = some (.func (.func g) #[] #[]) := (hb.cell (p := ⟨B, 0, none⟩) hB).trans hc
  have hBW : B < W.heap.size := Nat.lt_of_lt_of_le hB hb.size
  obtain ⟨c0, c1, rfl⟩ := two (hlen j r hr)
  have hcall := hp (W.alloc (.cells #[c0, c1] 73)) j _ hr (hb.alloc hb.size _)
  have hBW2 : B < (W.alloc (.cells #[c0, c1] 73)).heap.size := by simp; omega
  show Calls Tryz.prog 165 #[.agg #[c0, c1], .pointer (some ⟨B, 0, none⟩)] W fun e w' => e = .returned (.bool (!q j)) ∧ Below W.heap.size W w'
  obtain ⟨Q, hQ⟩ : ∃ Q, q j = Q := ⟨_, rfl⟩
  rw [hQ] at hcall ⊢
  have hne : B ≠ W.heap.size := by omega
  clear hQ hp hr
  change Calls Tryz.prog g #[.agg #[c0, c1]] _ _ at hcall
  go_enter Tryz.func165, Tryz.ntmps165
  go_wp2_with (go_at_fn g; refine hcall.mono ?_; rintro e w' ⟨rfl, hb'⟩)
  go_ret
  exact ⟨rfl, ((Below.refl _ _).alloc (Nat.le_refl _) _).trans (hb'.mono (by simp))⟩
set_option maxRecDepth 100000 in
set_option maxHeartbeats 1000000 in
theorem all_ft (la : Option Addr) (c : Nat) (rows : List (List Value)) (q : Nat → Bool) (g : Nat) (eg : ∀ args w, (callFunc g args).run Tryz.prog w = .ok (.enter g args) w) (w : World)
    (hrow : RowAt w 2 (.slice la rows.length c) rows) (hp : PredRow g #[] rows q w) :
    Calls Tryz.prog 98 #[.slice la rows.length c, .func (.func g) #[] #[]] w fun e w' => e = .returned (.bool (decide (rows.length ≤ 4096) && !anyN (fun j => !q j) rows.length)) ∧ Below w.heap.size w w' := by
  have ea : ∀ args w, (callFunc 165 args).run Tryz.prog w = .ok (.enter 165 args) w := enters_of Tryz.func165 (by kernel_rfl) rfl
  have hB1 : Below w.heap.size w (w.alloc (.cells #[.func (.func g) #[] #[]] 163)) := (Below.refl _ _).alloc (Nat.le_refl _) _
  by_cases hle : rows.length ≤ 4096
  · have hcall := cont_ft la c rows (fun j => !q j) 165 #[.pointer (some ⟨w.heap.size, 0, none⟩)] ea (w.alloc (.cells #[.func (.func g) #[] #[]] 163)) (hrow.later hB1)
      (not_ft rows q g eg w.heap.size _ (fun j r hr => by obtain ⟨_, _, _, _, h⟩ := hrow; exact (h j r hr).1) (by simp) (by simp) (hp.rebase hB1))
    obtain ⟨Q, hQ⟩ : ∃ Q, anyN (fun j => !q j) rows.length = Q := ⟨_, rfl⟩
    rw [hQ] at hcall ⊢
    have hd : decide (rows.length ≤ 4096) = true := decide_eq_true hle
    rw [hd]
    clear hQ hp hrow
    go_enter Tryz.func98, Tryz.ntmps98
    go_wp2_with (go_at_call 164; refine hcall.mono ?_; rintro e w' ⟨rfl, hb'⟩)
    go_ret
    exact ⟨rfl, hB1.trans (hb'.mono (by simp))⟩
  · have hd : decide (rows.length ≤ 4096) = false := decide_eq_false hle
    rw [hd]
    clear hp hrow
    go_enter Tryz.func98, Tryz.ntmps98
    go_wp2_with fail
    go_ret
    exact ⟨rfl, hB1⟩
set_option maxRecDepth 100000 in
set_option maxHeartbeats 2000000 in
theorem idx_func (la : Option Addr) (c : Nat) (rows : List (List Value)) (p : Nat → Bool) (g : Nat) (lb : Array Value) (eg : ∀ args w, (callFunc g args).run Tryz.prog w = .ok (.enter g args) w) (w : World)
    (hrow : RowAt w 3 (.slice la rows.length c) rows) (hp : PredRow g lb rows p w) :
    Calls Tryz.prog 221 #[.slice la rows.length c, .func (.func g) #[] lb] w fun e w' => e = .returned (.int .i64 (idxN p rows.length)) ∧ Below w.heap.size w w' := by
  obtain ⟨la', c', hv, hle, hr⟩ := hrow
  obtain ⟨rfl, rfl⟩ : la = la' ∧ c = c' := by simp only [Value.slice.injEq] at hv; exact ⟨hv.1, hv.2.2⟩
  have HR := Lib.hid hr
  have HP := Lib.hid hp
  clear hr hp hv
  go_enter Tryz.func221, Tryz.ntmps221
  go_wp2_with fail
  go_loopg [5, 8] rows.length (fun gk _ s8 wr => ∃ k : Nat, k ≤ rows.length ∧ rows.length - k ≤ gk ∧ s8 = .int .i64 k ∧ Below w.heap.size w wr ∧ Hid (∀ j, j < k → p j = false))
  case atStart => exact ⟨0, Nat.zero_le _, by omega, rfl, Below.refl _ w, Lib.hid fun j hj => absurd hj (Nat.not_lt_zero _)⟩
  case round =>
    obtain ⟨k, hk, hg, rfl, hB, HA⟩ := hrel
    by_cases hlt : k < rows.length
    · obtain ⟨r, hrk⟩ : ∃ r, rows[k]? = some r := ⟨_, List.getElem?_eq_getElem hlt⟩
      obtain ⟨hlen, b, off, rfl, hb, hcell⟩ := HR.out k r hrk
      obtain ⟨c0, c1, c2, rfl⟩ := three hlen
      have x0 : wr.cell? ⟨b, off + k * 3, none⟩ = some c0 := (hB.cell (p := ⟨b, off + k * 3 + 0, none⟩) hb).trans (hcell 0 _ rfl)
      have x1 : wr.cell? ⟨b, off + k * 3 + 1, none⟩ = some c1 := (hB.cell (p := ⟨b, off + k * 3 + 1, none⟩) hb).trans (hcell 1 _ rfl)
      have x2 : wr.cell? ⟨b, off + k * 3 + 2, none⟩ = some c2 := (hB.cell (p := ⟨b, off + k * 3 + 2, none⟩) hb).trans (hcell 2 _ rfl)
      have hcall := HP.out wr k _ hrk hB
      have hltz : (k : Int) < (rows.length : Int) := by omega
      have HB := Lib.hid hB
      clear hcell hrk hlen hB
      cases hq : p k with
      | true =>
        rw [hq] at hcall
        have HQ := Lib.hid hq
        clear hq
        go_wp2_with (go_at_fn g; refine hcall.mono ?_; rintro e w' ⟨rfl, hb'⟩)
        go_ret
        exact ⟨by rw [idxN_hit hlt HQ.out HA.out]; rfl, HB.out.trans (hb'.mono HB.out.size)⟩
      | false =>
        rw [hq] at hcall
        have HQ := Lib.hid hq
        clear hq
        go_wp2_with (go_at_fn g; refine hcall.mono ?_; rintro e w' ⟨rfl, hb'⟩)
        go_roundg (rows.length - (k + 1))
        case measure => omega
        case rel => exact ⟨k + 1, by omega, by omega, by go_num, HB.out.trans (hb'.mono HB.out.size), Lib.hid fun j hj => by rcases (show j < k ∨ j = k by omega) with h9 | rfl; exact HA.out j h9; exact HQ.out⟩
    · have hltz : ¬ (k : Int) < (rows.length : Int) := by omega
      obtain rfl : k = rows.length := by omega
      have HB := Lib.hid hB
      clear hB
      go_wp2_with fail
      go_ret
      exact ⟨by rw [idxN_miss HA.out]; rfl, HB.out⟩
set_option maxRecDepth 100000 in
theorem cont_func (la : Option Addr) (c : Nat) (rows : List (List Value)) (p : Nat → Bool) (g : Nat) (lb : Array Value) (eg : ∀ args w, (callFunc g args).run Tryz.prog w = .ok (.enter g args) w) (w : World)
    (hrow : RowAt w 3 (.slice la rows.length c) rows) (hp : PredRow g lb rows p w) :
    Calls Tryz.prog 167 #[.slice la rows.length c, .func (.func g) #[] lb] w fun e w' => e = .returned (.bool (anyN p rows.length)) ∧ Below w.heap.size w w' := by
  rw [anyN_iff]
  have hcall := idx_func la c rows p g lb eg w hrow hp
  obtain ⟨R, hR⟩ : ∃ R, idxN p rows.length = R := ⟨_, rfl⟩
  rw [hR] at hcall ⊢
  clear hR hp hrow
  go_enter Tryz.func167, Tryz.ntmps167
  go_wp2_with (go_at_call 221; refine hcall.mono ?_; rintro e w' ⟨rfl, hb'⟩)
  go_ret
  exact ⟨rfl, hb'⟩
set_option maxRecDepth 100000 in
set_option maxHeartbeats 1000000 in
theorem not_func (rows : List (List Value)) (q : Nat → Bool) (g : Nat) (eg : ∀ args w, (callFunc g args).run Tryz.prog w = .ok (.enter g args) w) (B : Nat) (w : World) (hlen : ∀ (j : Nat) (r : List Value), rows[j]? = some r → r.length = 3) (hB : B < w.heap.size) (hc : w.cell? ⟨B, 0, none⟩ = some (.func (.func g) #[] #[])) (hp : PredRow g #[] rows q w) :
    PredRow 168 #[.pointer (some ⟨B, 0, none⟩)] rows (fun j => !q j) w := fun W j r hr hb => by
  have hc' : W.cell? ⟨B, 0, none⟩ = some (.func (.func g) #[] #[]) := (hb.cell (p := ⟨B, 0, none⟩) hB).trans hc
  have hBW : B < W.heap.size := Nat.lt_of_lt_of_le hB hb.size
  obtain ⟨c0, c1, c2, rfl⟩ := three (hlen j r hr)
  have hcall := hp (W.alloc (.cells #[c0, c1, c2] 75)) j _ hr (hb.alloc hb.size _)
  have hBW2 : B < (W.alloc (.cells #[c0, c1, c2] 75)).heap.size := by simp; omega
  show Calls Tryz.prog 168 #[.agg #[c0, c1, c2], .pointer (some ⟨B, 0, none⟩)] W fun e w' => e = .returned (.bool (!q j)) ∧ Below W.heap.size W w'
  obtain ⟨Q, hQ⟩ : ∃ Q, q j = Q := ⟨_, rfl⟩
  rw [hQ] at hcall ⊢
  have hne : B ≠ W.heap.size := by omega
  clear hQ hp hr
  change Calls Tryz.prog g #[.agg #[c0, c1, c2]] _ _ at hcall
  go_enter Tryz.func168, Tryz.ntmps168
  go_wp2_with (go_at_fn g; refine hcall.mono ?_; rintro e w' ⟨rfl, hb'⟩)
  go_ret
  exact ⟨rfl, ((Below.refl _ _).alloc (Nat.le_refl _) _).trans (hb'.mono (by simp))⟩
set_option maxRecDepth 100000 in
set_option maxHeartbeats 1000000 in
theorem all_func (la : Option Addr) (c : Nat) (rows : List (List Value)) (q : Nat → Bool) (g : Nat) (eg : ∀ args w, (callFunc g args).run Tryz.prog w = .ok (.enter g args) w) (w : World)
    (hrow : RowAt w 3 (.slice la rows.length c) rows) (hp : PredRow g #[] rows q w) :
    Calls Tryz.prog 101 #[.slice la rows.length c, .func (.func g) #[] #[]] w fun e w' => e = .returned (.bool (decide (rows.length ≤ 4096) && !anyN (fun j => !q j) rows.length)) ∧ Below w.heap.size w w' := by
  have ea : ∀ args w, (callFunc 168 args).run Tryz.prog w = .ok (.enter 168 args) w := enters_of Tryz.func168 (by kernel_rfl) rfl
  have hB1 : Below w.heap.size w (w.alloc (.cells #[.func (.func g) #[] #[]] 167)) := (Below.refl _ _).alloc (Nat.le_refl _) _
  by_cases hle : rows.length ≤ 4096
  · have hcall := cont_func la c rows (fun j => !q j) 168 #[.pointer (some ⟨w.heap.size, 0, none⟩)] ea (w.alloc (.cells #[.func (.func g) #[] #[]] 167)) (hrow.later hB1)
      (not_func rows q g eg w.heap.size _ (fun j r hr => by obtain ⟨_, _, _, _, h⟩ := hrow; exact (h j r hr).1) (by simp) (by simp) (hp.rebase hB1))
    obtain ⟨Q, hQ⟩ : ∃ Q, anyN (fun j => !q j) rows.length = Q := ⟨_, rfl⟩
    rw [hQ] at hcall ⊢
    have hd : decide (rows.length ≤ 4096) = true := decide_eq_true hle
    rw [hd]
    clear hQ hp hrow
    go_enter Tryz.func101, Tryz.ntmps101
    go_wp2_with (go_at_call 167; refine hcall.mono ?_; rintro e w' ⟨rfl, hb'⟩)
    go_ret
    exact ⟨rfl, hB1.trans (hb'.mono (by simp))⟩
  · have hd : decide (rows.length ≤ 4096) = false := decide_eq_false hle
    rw [hd]
    clear hp hrow
    go_enter Tryz.func101, Tryz.ntmps101
    go_wp2_with fail
    go_ret
    exact ⟨rfl, hB1⟩
set_option maxRecDepth 100000 in
set_option maxHeartbeats 2000000 in
theorem idx_mem (la : Option Addr) (c : Nat) (rows : List (List Value)) (p : Nat → Bool) (g : Nat) (lb : Array Value) (eg : ∀ args w, (callFunc g args).run Tryz.prog w = .ok (.enter g args) w) (w : World)
    (hrow : RowAt w 2 (.slice la rows.length c) rows) (hp : PredRow g lb rows p w) :
    Calls Tryz.prog 222 #[.slice la rows.length c, .func (.func g) #[] lb] w fun e w' => e = .returned (.int .i64 (idxN p rows.length)) ∧ Below w.heap.size w w' := by
  obtain ⟨la', c', hv, hle, hr⟩ := hrow
  obtain ⟨rfl, rfl⟩ : la = la' ∧ c = c' := by simp only [Value.slice.injEq] at hv; exact ⟨hv.1, hv.2.2⟩
  have HR := Lib.hid hr
  have HP := Lib.hid hp
  clear hr hp hv
  go_enter Tryz.func222, Tryz.ntmps222
  go_wp2_with fail
  go_loopg [5, 8] rows.length (fun gk _ s8 wr => ∃ k : Nat, k ≤ rows.length ∧ rows.length - k ≤ gk ∧ s8 = .int .i64 k ∧ Below w.heap.size w wr ∧ Hid (∀ j, j < k → p j = false))
  case atStart => exact ⟨0, Nat.zero_le _, by omega, rfl, Below.refl _ w, Lib.hid fun j hj => absurd hj (Nat.not_lt_zero _)⟩
  case round =>
    obtain ⟨k, hk, hg, rfl, hB, HA⟩ := hrel
    by_cases hlt : k < rows.length
    · obtain ⟨r, hrk⟩ : ∃ r, rows[k]? = some r := ⟨_, List.getElem?_eq_getElem hlt⟩
      obtain ⟨hlen, b, off, rfl, hb, hcell⟩ := HR.out k r hrk
      obtain ⟨c0, c1, rfl⟩ := two hlen
      have x0 : wr.cell? ⟨b, off + k * 2, none⟩ = some c0 := (hB.cell (p := ⟨b, off + k * 2 + 0, none⟩) hb).trans (hcell 0 _ rfl)
      have x1 : wr.cell? ⟨b, off + k * 2 + 1, none⟩ = some c1 := (hB.cell (p := ⟨b, off + k * 2 + 1, none⟩) hb).trans (hcell 1 _ rfl)
      have hcall := HP.out wr k _ hrk hB
      have hltz : (k : Int) < (rows.length : Int) := by omega
      have HB := Lib.hid hB
      clear hcell hrk hlen hB
      cases hq : p k with
      | true =>
        rw [hq] at hcall
        have HQ := Lib.hid hq
        clear hq
        go_wp2_with (go_at_fn g; refine hcall.mono ?_; rintro e w' ⟨rfl, hb'⟩)
        go_ret
        exact ⟨by rw [idxN_hit hlt HQ.out HA.out]; rfl, HB.out.trans (hb'.mono HB.out.size)⟩
      | false =>
        rw [hq] at hcall
        have HQ := Lib.hid hq
        clear hq
        go_wp2_with (go_at_fn g; refine hcall.mono ?_; rintro e w' ⟨rfl, hb'⟩)
        go_roundg (rows.length - (k + 1))
        case measure => omega
        case rel => exact ⟨k + 1, by omega, by omega, by go_num, HB.out.trans (hb'.mono HB.out.size), Lib.hid fun j hj => by rcases (show j < k ∨ j = k by omega) with h9 | rfl; exact HA.out j h9; exact HQ.out⟩
    · have hltz : ¬ (k : Int) < (rows.length : Int) := by omega
      obtain rfl : k = rows.length := by omega
      have HB := Lib.hid hB
      clear hB
      go_wp2_with fail
      go_ret
      exact ⟨by rw [idxN_miss HA.out]; rfl, HB.out⟩
set_option maxRecDepth 100000 in
theorem cont_mem (la : Option Addr) (c : Nat) (rows : List (List Value)) (p : Nat → Bool) (g : Nat) (lb : Array Value) (eg : ∀ args w, (callFunc g args).run Tryz.prog w = .ok (.enter g args) w) (w : World)
    (hrow : RowAt w 2 (.slice la rows.length c) rows) (hp : PredRow g lb rows p w) :
    Calls Tryz.prog 170 #[.slice la rows.length c, .func (.func g) #[] lb] w fun e w' => e = .returned (.bool (anyN p rows.length)) ∧ Below w.heap.size w w' := by
  rw [anyN_iff]
  have hcall := idx_mem la c rows p g lb eg w hrow hp
  obtain ⟨R, hR⟩ : ∃ R, idxN p rows.length = R := ⟨_, rfl⟩
  rw [hR] at hcall ⊢
  clear hR hp hrow
  go_enter Tryz.func170, Tryz.ntmps170
  go_wp2_with (go_at_call 222; refine hcall.mono ?_; rintro e w' ⟨rfl, hb'⟩)
  go_ret
  exact ⟨rfl, hb'⟩
set_option maxRecDepth 100000 in
set_option maxHeartbeats 1000000 in
theorem not_mem (rows : List (List Value)) (q : Nat → Bool) (g : Nat) (eg : ∀ args w, (callFunc g args).run Tryz.prog w = .ok (.enter g args) w) (B : Nat) (w : World) (hlen : ∀ (j : Nat) (r : List Value), rows[j]? = some r → r.length = 2) (hB : B < w.heap.size) (hc : w.cell? ⟨B, 0, none⟩ = some (.func (.func g) #[] #[])) (hp : PredRow g #[] rows q w) :
    PredRow 171 #[.pointer (some ⟨B, 0, none⟩)] rows (fun j => !q j) w := fun W j r hr hb => by
  have hc' : W.cell? ⟨B, 0, none⟩ = some (.func (.func g) #[] #[]) := (hb.cell (p := ⟨B, 0, none⟩) hB).trans hc
  have hBW : B < W.heap.size := Nat.lt_of_lt_of_le hB hb.size
  obtain ⟨c0, c1, rfl⟩ := two (hlen j r hr)
  have hcall := hp (W.alloc (.cells #[c0, c1] 77)) j _ hr (hb.alloc hb.size _)
  have hBW2 : B < (W.alloc (.cells #[c0, c1] 77)).heap.size := by simp; omega
  show Calls Tryz.prog 171 #[.agg #[c0, c1], .pointer (some ⟨B, 0, none⟩)] W fun e w' => e = .returned (.bool (!q j)) ∧ Below W.heap.size W w'
  obtain ⟨Q, hQ⟩ : ∃ Q, q j = Q := ⟨_, rfl⟩
  rw [hQ] at hcall ⊢
  have hne : B ≠ W.heap.size := by omega
  clear hQ hp hr
  change Calls Tryz.prog g #[.agg #[c0, c1]] _ _ at hcall
  go_enter Tryz.func171, Tryz.ntmps171
  go_wp2_with (go_at_fn g; refine hcall.mono ?_; rintro e w' ⟨rfl, hb'⟩)
  go_ret
  exact ⟨rfl, ((Below.refl _ _).alloc (Nat.le_refl _) _).trans (hb'.mono (by simp))⟩
set_option maxRecDepth 100000 in
set_option maxHeartbeats 1000000 in
theorem all_mem (la : Option Addr) (c : Nat) (rows : List (List Value)) (q : Nat → Bool) (g : Nat) (eg : ∀ args w, (callFunc g args).run Tryz.prog w = .ok (.enter g args) w) (w : World)
    (hrow : RowAt w 2 (.slice la rows.length c) rows) (hp : PredRow g #[] rows q w) :
    Calls Tryz.prog 106 #[.slice la rows.length c, .func (.func g) #[] #[]] w fun e w' => e = .returned (.bool (decide (rows.length ≤ 4096) && !anyN (fun j => !q j) rows.length)) ∧ Below w.heap.size w w' := by
  have ea : ∀ args w, (callFunc 171 args).run Tryz.prog w = .ok (.enter 171 args) w := enters_of Tryz.func171 (by kernel_rfl) rfl
  have hB1 : Below w.heap.size w (w.alloc (.cells #[.func (.func g) #[] #[]] 169)) := (Below.refl _ _).alloc (Nat.le_refl _) _
  by_cases hle : rows.length ≤ 4096
  · have hcall := cont_mem la c rows (fun j => !q j) 171 #[.pointer (some ⟨w.heap.size, 0, none⟩)] ea (w.alloc (.cells #[.func (.func g) #[] #[]] 169)) (hrow.later hB1)
      (not_mem rows q g eg w.heap.size _ (fun j r hr => by obtain ⟨_, _, _, _, h⟩ := hrow; exact (h j r hr).1) (by simp) (by simp) (hp.rebase hB1))
    obtain ⟨Q, hQ⟩ : ∃ Q, anyN (fun j => !q j) rows.length = Q := ⟨_, rfl⟩
    rw [hQ] at hcall ⊢
    have hd : decide (rows.length ≤ 4096) = true := decide_eq_true hle
    rw [hd]
    clear hQ hp hrow
    go_enter Tryz.func106, Tryz.ntmps106
    go_wp2_with (go_at_call 170; refine hcall.mono ?_; rintro e w' ⟨rfl, hb'⟩)
    go_ret
    exact ⟨rfl, hB1.trans (hb'.mono (by simp))⟩
  · have hd : decide (rows.length ≤ 4096) = false := decide_eq_false hle
    rw [hd]
    clear hp hrow
    go_enter Tryz.func106, Tryz.ntmps106
    go_wp2_with fail
    go_ret
    exact ⟨rfl, hB1⟩
set_option maxRecDepth 100000 in
set_option maxHeartbeats 2000000 in
theorem idx_glob (la : Option Addr) (c : Nat) (rows : List (List Value)) (p : Nat → Bool) (g : Nat) (lb : Array Value) (eg : ∀ args w, (callFunc g args).run Tryz.prog w = .ok (.enter g args) w) (w : World)
    (hrow : RowAt w 3 (.slice la rows.length c) rows) (hp : PredRow g lb rows p w) :
    Calls Tryz.prog 223 #[.slice la rows.length c, .func (.func g) #[] lb] w fun e w' => e = .returned (.int .i64 (idxN p rows.length)) ∧ Below w.heap.size w w' := by
  obtain ⟨la', c', hv, hle, hr⟩ := hrow
  obtain ⟨rfl, rfl⟩ : la = la' ∧ c = c' := by simp only [Value.slice.injEq] at hv; exact ⟨hv.1, hv.2.2⟩
  have HR := Lib.hid hr
  have HP := Lib.hid hp
  clear hr hp hv
  go_enter Tryz.func223, Tryz.ntmps223
  go_wp2_with fail
  go_loopg [5, 8] rows.length (fun gk _ s8 wr => ∃ k : Nat, k ≤ rows.length ∧ rows.length - k ≤ gk ∧ s8 = .int .i64 k ∧ Below w.heap.size w wr ∧ Hid (∀ j, j < k → p j = false))
  case atStart => exact ⟨0, Nat.zero_le _, by omega, rfl, Below.refl _ w, Lib.hid fun j hj => absurd hj (Nat.not_lt_zero _)⟩
  case round =>
    obtain ⟨k, hk, hg, rfl, hB, HA⟩ := hrel
    by_cases hlt : k < rows.length
    · obtain ⟨r, hrk⟩ : ∃ r, rows[k]? = some r := ⟨_, List.getElem?_eq_getElem hlt⟩
      obtain ⟨hlen, b, off, rfl, hb, hcell⟩ := HR.out k r hrk
      obtain ⟨c0, c1, c2, rfl⟩ := three hlen
      have x0 : wr.cell? ⟨b, off + k * 3, none⟩ = some c0 := (hB.cell (p := ⟨b, off + k * 3 + 0, none⟩) hb).trans (hcell 0 _ rfl)
      have x1 : wr.cell? ⟨b, off + k * 3 + 1, none⟩ = some c1 := (hB.cell (p := ⟨b, off + k * 3 + 1, none⟩) hb).trans (hcell 1 _ rfl)
      have x2 : wr.cell? ⟨b, off + k * 3 + 2, none⟩ = some c2 := (hB.cell (p := ⟨b, off + k * 3 + 2, none⟩) hb).trans (hcell 2 _ rfl)
      have hcall := HP.out wr k _ hrk hB
      have hltz : (k : Int) < (rows.length : Int) := by omega
      have HB := Lib.hid hB
      clear hcell hrk hlen hB
      cases hq : p k with
      | true =>
        rw [hq] at hcall
        have HQ := Lib.hid hq
        clear hq
        go_wp2_with (go_at_fn g; refine hcall.mono ?_; rintro e w' ⟨rfl, hb'⟩)
        go_ret
        exact ⟨by rw [idxN_hit hlt HQ.out HA.out]; rfl, HB.out.trans (hb'.mono HB.out.size)⟩
      | false =>
        rw [hq] at hcall
        have HQ := Lib.hid hq
        clear hq
        go_wp2_with (go_at_fn g; refine hcall.mono ?_; rintro e w' ⟨rfl, hb'⟩)
        go_roundg (rows.length - (k + 1))
        case measure => omega
        case rel => exact ⟨k + 1, by omega, by omega, by go_num, HB.out.trans (hb'.mono HB.out.size), Lib.hid fun j hj => by rcases (show j < k ∨ j = k by omega) with h9 | rfl; exact HA.out j h9; exact HQ.out⟩
    · have hltz : ¬ (k : Int) < (rows.length : Int) := by omega
      obtain rfl : k = rows.length := by omega
      have HB := Lib.hid hB
      clear hB
      go_wp2_with fail
      go_ret
      exact ⟨by rw [idxN_miss HA.out]; rfl, HB.out⟩
set_option maxRecDepth 100000 in
theorem cont_glob (la : Option Addr) (c : Nat) (rows : List (List Value)) (p : Nat → Bool) (g : Nat) (lb : Array Value) (eg : ∀ args w, (callFunc g args).run Tryz.prog w = .ok (.enter g args) w) (w : World)
    (hrow : RowAt w 3 (.slice la rows.length c) rows) (hp : PredRow g lb rows p w) :
    Calls Tryz.prog 172 #[.slice la rows.length c, .func (.func g) #[] lb] w fun e w' => e = .returned (.bool (anyN p rows.length)) ∧ Below w.heap.size w w' := by
  rw [anyN_iff]
  have hcall := idx_glob la c rows p g lb eg w hrow hp
  obtain ⟨R, hR⟩ : ∃ R, idxN p rows.length = R := ⟨_, rfl⟩
  rw [hR] at hcall ⊢
  clear hR hp hrow
  go_enter Tryz.func172, Tryz.ntmps172
  go_wp2_with (go_at_call 223; refine hcall.mono ?_; rintro e w' ⟨rfl, hb'⟩)
  go_ret
  exact ⟨rfl, hb'⟩
set_option maxRecDepth 100000 in
set_option maxHeartbeats 1000000 in
theorem not_glob (rows : List (List Value)) (q : Nat → Bool) (g : Nat) (eg : ∀ args w, (callFunc g args).run Tryz.prog w = .ok (.enter g args) w) (B : Nat) (w : World) (hlen : ∀ (j : Nat) (r : List Value), rows[j]? = some r → r.length = 3) (hB : B < w.heap.size) (hc : w.cell? ⟨B, 0, none⟩ = some (.func (.func g) #[] #[])) (hp : PredRow g #[] rows q w) :
    PredRow 173 #[.pointer (some ⟨B, 0, none⟩)] rows (fun j => !q j) w := fun W j r hr hb => by
  have hc' : W.cell? ⟨B, 0, none⟩ = some (.func (.func g) #[] #[]) := (hb.cell (p := ⟨B, 0, none⟩) hB).trans hc
  have hBW : B < W.heap.size := Nat.lt_of_lt_of_le hB hb.size
  obtain ⟨c0, c1, c2, rfl⟩ := three (hlen j r hr)
  have hcall := hp (W.alloc (.cells #[c0, c1, c2] 79)) j _ hr (hb.alloc hb.size _)
  have hBW2 : B < (W.alloc (.cells #[c0, c1, c2] 79)).heap.size := by simp; omega
  show Calls Tryz.prog 173 #[.agg #[c0, c1, c2], .pointer (some ⟨B, 0, none⟩)] W fun e w' => e = .returned (.bool (!q j)) ∧ Below W.heap.size W w'
  obtain ⟨Q, hQ⟩ : ∃ Q, q j = Q := ⟨_, rfl⟩
  rw [hQ] at hcall ⊢
  have hne : B ≠ W.heap.size := by omega
  clear hQ hp hr
  change Calls Tryz.prog g #[.agg #[c0, c1, c2]] _ _ at hcall
  go_enter Tryz.func173, Tryz.ntmps173
  go_wp2_with (go_at_fn g; refine hcall.mono ?_; rintro e w' ⟨rfl, hb'⟩)
  go_ret
  exact ⟨rfl, ((Below.refl _ _).alloc (Nat.le_refl _) _).trans (hb'.mono (by simp))⟩
set_option maxRecDepth 100000 in
set_option maxHeartbeats 1000000 in
theorem all_glob (la : Option Addr) (c : Nat) (rows : List (List Value)) (q : Nat → Bool) (g : Nat) (eg : ∀ args w, (callFunc g args).run Tryz.prog w = .ok (.enter g args) w) (w : World)
    (hrow : RowAt w 3 (.slice la rows.length c) rows) (hp : PredRow g #[] rows q w) :
    Calls Tryz.prog 108 #[.slice la rows.length c, .func (.func g) #[] #[]] w fun e w' => e = .returned (.bool (decide (rows.length ≤ 4096) && !anyN (fun j => !q j) rows.length)) ∧ Below w.heap.size w w' := by
  have ea : ∀ args w, (callFunc 173 args).run Tryz.prog w = .ok (.enter 173 args) w := enters_of Tryz.func173 (by kernel_rfl) rfl
  have hB1 : Below w.heap.size w (w.alloc (.cells #[.func (.func g) #[] #[]] 171)) := (Below.refl _ _).alloc (Nat.le_refl _) _
  by_cases hle : rows.length ≤ 4096
  · have hcall := cont_glob la c rows (fun j => !q j) 173 #[.pointer (some ⟨w.heap.size, 0, none⟩)] ea (w.alloc (.cells #[.func (.func g) #[] #[]] 171)) (hrow.later hB1)
      (not_glob rows q g eg w.heap.size _ (fun j r hr => by obtain ⟨_, _, _, _, h⟩ := hrow; exact (h j r hr).1) (by simp) (by simp) (hp.rebase hB1))
    obtain ⟨Q, hQ⟩ : ∃ Q, anyN (fun j => !q j) rows.length = Q := ⟨_, rfl⟩
    rw [hQ] at hcall ⊢
    have hd : decide (rows.length ≤ 4096) = true := decide_eq_true hle
    rw [hd]
    clear hQ hp hrow
    go_enter Tryz.func108, Tryz.ntmps108
    go_wp2_with (go_at_call 172; refine hcall.mono ?_; rintro e w' ⟨rfl, hb'⟩)
    go_ret
    exact ⟨rfl, hB1.trans (hb'.mono (by simp))⟩
  · have hd : decide (rows.length ≤ 4096) = false := decide_eq_false hle
    rw [hd]
    clear hp hrow
    go_enter Tryz.func108, Tryz.ntmps108
    go_wp2_with fail
    go_ret
    exact ⟨rfl, hB1⟩
set_option maxRecDepth 100000 in
set_option maxHeartbeats 2000000 in
theorem idx_exp (la : Option Addr) (c : Nat) (rows : List (List Value)) (p : Nat → Bool) (g : Nat) (lb : Array Value) (eg : ∀ args w, (callFunc g args).run Tryz.prog w = .ok (.enter g args) w) (w : World)
    (hrow : RowAt w 3 (.slice la rows.length c) rows) (hp : PredRow g lb rows p w) :
    Calls Tryz.prog 224 #[.slice la rows.length c, .func (.func g) #[] lb] w fun e w' => e = .returned (.int .i64 (idxN p rows.length)) ∧ Below w.heap.size w w' := by
  obtain ⟨la', c', hv, hle, hr⟩ := hrow
  obtain ⟨rfl, rfl⟩ : la = la' ∧ c = c' := by simp only [Value.slice.injEq] at hv; exact ⟨hv.1, hv.2.2⟩
  have HR := Lib.hid hr
  have HP := Lib.hid hp
  clear hr hp hv
  go_enter Tryz.func224, Tryz.ntmps224
  go_wp2_with fail
  go_loopg [5, 8] rows.length (fun gk _ s8 wr => ∃ k : Nat, k ≤ rows.length ∧ rows.length - k ≤ gk ∧ s8 = .int .i64 k ∧ Below w.heap.size w wr ∧ Hid (∀ j, j < k → p j = false))
  case atStart => exact ⟨0, Nat.zero_le _, by omega, rfl, Below.refl _ w, Lib.hid fun j hj => absurd hj (Nat.not_lt_zero _)⟩
  case round =>
    obtain ⟨k, hk, hg, rfl, hB, HA⟩ := hrel
    by_cases hlt : k < rows.length
    · obtain ⟨r, hrk⟩ : ∃ r, rows[k]? = some r := ⟨_, List.getElem?_eq_getElem hlt⟩
      obtain ⟨hlen, b, off, rfl, hb, hcell⟩ := HR.out k r hrk
      obtain ⟨c0, c1, c2, rfl⟩ := three hlen
      have x0 : wr.cell? ⟨b, off + k * 3, none⟩ = some c0 := (hB.cell (p := ⟨b, off + k * 3 + 0, none⟩) hb).trans (hcell 0 _ rfl)
      have x1 : wr.cell? ⟨b, off + k * 3 + 1, none⟩ = some c1 := (hB.cell (p := ⟨b, off + k * 3 + 1, none⟩) hb).trans (hcell 1 _ rfl)
      have x2 : wr.cell? ⟨b, off + k * 3 + 2, none⟩ = some c2 := (hB.cell (p := ⟨b, off + k * 3 + 2, none⟩) hb).trans (hcell 2 _ rfl)
      have hcall := HP.out wr k _ hrk hB
      have hltz : (k : Int) < (rows.length : Int) := by omega
      have HB := Lib.hid hB
      clear hcell hrk hlen hB
      cases hq : p k with
      | true =>
        rw [hq] at hcall
        have HQ := Lib.hid hq
        clear hq
        go_wp2_with (go_at_fn g; refine hcall.mono ?_; rintro e w' ⟨rfl, hb'⟩)
        go_ret
        exact ⟨by rw [idxN_hit hlt HQ.out HA.out]; rfl, HB.out.trans (hb'.mono HB.out.size)⟩
      | false =>
        rw [hq] at hcall
        have HQ := Lib.hid hq
        clear hq
        go_wp2_with (go_at_fn g; refine hcall.mono ?_; rintro e w' ⟨rfl, hb'⟩)
        go_roundg (rows.length - (k + 1))
        case measure => omega
        case rel => exact ⟨k + 1, by omega, by omega, by go_num, HB.out.trans (hb'.mono HB.out.size), Lib.hid fun j hj => by rcases (show j < k ∨ j = k by omega) with h9 | rfl; exact HA.out j h9; exact HQ.out⟩
    · have hltz : ¬ (k : Int) < (rows.length : Int) := by omega
      obtain rfl : k = rows.length := by omega
      have HB := Lib.hid hB
      clear hB
      go_wp2_with fail
      go_ret
      exact ⟨by rw [idxN_miss HA.out]; rfl, HB.out⟩
set_option maxRecDepth 100000 in
theorem cont_exp (la : Option Addr) (c : Nat) (rows : List (List Value)) (p : Nat → Bool) (g : Nat) (lb : Array Value) (eg : ∀ args w, (callFunc g args).run Tryz.prog w = .ok (.enter g args) w) (w : World)
    (hrow : RowAt w 3 (.slice la rows.length c) rows) (hp : PredRow g lb rows p w) :
    Calls Tryz.prog 174 #[.slice la rows.length c, .func (.func g) #[] lb] w fun e w' => e = .returned (.bool (anyN p rows.length)) ∧ Below w.heap.size w w' := by
  rw [anyN_iff]
  have hcall := idx_exp la c rows p g lb eg w hrow hp
  obtain ⟨R, hR⟩ : ∃ R, idxN p rows.length = R := ⟨_, rfl⟩
  rw [hR] at hcall ⊢
  clear hR hp hrow
  go_enter Tryz.func174, Tryz.ntmps174
  go_wp2_with (go_at_call 224; refine hcall.mono ?_; rintro e w' ⟨rfl, hb'⟩)
  go_ret
  exact ⟨rfl, hb'⟩
set_option maxRecDepth 100000 in
set_option maxHeartbeats 1000000 in
theorem not_exp (rows : List (List Value)) (q : Nat → Bool) (g : Nat) (eg : ∀ args w, (callFunc g args).run Tryz.prog w = .ok (.enter g args) w) (B : Nat) (w : World) (hlen : ∀ (j : Nat) (r : List Value), rows[j]? = some r → r.length = 3) (hB : B < w.heap.size) (hc : w.cell? ⟨B, 0, none⟩ = some (.func (.func g) #[] #[])) (hp : PredRow g #[] rows q w) :
    PredRow 175 #[.pointer (some ⟨B, 0, none⟩)] rows (fun j => !q j) w := fun W j r hr hb => by
  have hc' : W.cell? ⟨B, 0, none⟩ = some (.func (.func g) #[] #[]) := (hb.cell (p := ⟨B, 0, none⟩) hB).trans hc
  have hBW : B < W.heap.size := Nat.lt_of_lt_of_le hB hb.size
  obtain ⟨c0, c1, c2, rfl⟩ := three (hlen j r hr)
  have hcall := hp (W.alloc (.cells #[c0, c1, c2] 81)) j _ hr (hb.alloc hb.size _)
  have hBW2 : B < (W.alloc (.cells #[c0, c1, c2] 81)).heap.size := by simp; omega
  show Calls Tryz.prog 175 #[.agg #[c0, c1, c2], .pointer (some ⟨B, 0, none⟩)] W fun e w' => e = .returned (.bool (!q j)) ∧ Below W.heap.size W w'
  obtain ⟨Q, hQ⟩ : ∃ Q, q j = Q := ⟨_, rfl⟩
  rw [hQ] at hcall ⊢
  have hne : B ≠ W.heap.size := by omega
  clear hQ hp hr
  change Calls Tryz.prog g #[.agg #[c0, c1, c2]] _ _ at hcall
  go_enter Tryz.func175, Tryz.ntmps175
  go_wp2_with (go_at_fn g; refine hcall.mono ?_; rintro e w' ⟨rfl, hb'⟩)
  go_ret
  exact ⟨rfl, ((Below.refl _ _).alloc (Nat.le_refl _) _).trans (hb'.mono (by simp))⟩
set_option maxRecDepth 100000 in
set_option maxHeartbeats 1000000 in
theorem all_exp (la : Option Addr) (c : Nat) (rows : List (List Value)) (q : Nat → Bool) (g : Nat) (eg : ∀ args w, (callFunc g args).run Tryz.prog w = .ok (.enter g args) w) (w : World)
    (hrow : RowAt w 3 (.slice la rows.length c) rows) (hp : PredRow g #[] rows q w) :
    Calls Tryz.prog 110 #[.slice la rows.length c, .func (.func g) #[] #[]] w fun e w' => e = .returned (.bool (decide (rows.length ≤ 4096) && !anyN (fun j => !q j) rows.length)) ∧ Below w.heap.size w w' := by
  have ea : ∀ args w, (callFunc 175 args).run Tryz.prog w = .ok (.enter 175 args) w := enters_of Tryz.func175 (by kernel_rfl) rfl
  have hB1 : Below w.heap.size w (w.alloc (.cells #[.func (.func g) #[] #[]] 174)) := (Below.refl _ _).alloc (Nat.le_refl _) _
  by_cases hle : rows.length ≤ 4096
  · have hcall := cont_exp la c rows (fun j => !q j) 175 #[.pointer (some ⟨w.heap.size, 0, none⟩)] ea (w.alloc (.cells #[.func (.func g) #[] #[]] 174)) (hrow.later hB1)
      (not_exp rows q g eg w.heap.size _ (fun j r hr => by obtain ⟨_, _, _, _, h⟩ := hrow; exact (h j r hr).1) (by simp) (by simp) (hp.rebase hB1))
    obtain ⟨Q, hQ⟩ : ∃ Q, anyN (fun j => !q j) rows.length = Q := ⟨_, rfl⟩
    rw [hQ] at hcall ⊢
    have hd : decide (rows.length ≤ 4096) = true := decide_eq_true hle
    rw [hd]
    clear hQ hp hrow
    go_enter Tryz.func110, Tryz.ntmps110
    go_wp2_with (go_at_call 174; refine hcall.mono ?_; rintro e w' ⟨rfl, hb'⟩)
    go_ret
    exact ⟨rfl, hB1.trans (hb'.mono (by simp))⟩
  · have hd : decide (rows.length ≤ 4096) = false := decide_eq_false hle
    rw [hd]
    clear hp hrow
    go_enter Tryz.func110, Tryz.ntmps110
    go_wp2_with fail
    go_ret
    exact ⟨rfl, hB1⟩
set_option maxRecDepth 100000 in
set_option maxHeartbeats 2000000 in
theorem idx_data (la : Option Addr) (c : Nat) (rows : List (List Value)) (p : Nat → Bool) (g : Nat) (lb : Array Value) (eg : ∀ args w, (callFunc g args).run Tryz.prog w = .ok (.enter g args) w) (w : World)
    (hrow : RowAt w 2 (.slice la rows.length c) rows) (hp : PredRow g lb rows p w) :
    Calls Tryz.prog 226 #[.slice la rows.length c, .func (.func g) #[] lb] w fun e w' => e = .returned (.int .i64 (idxN p rows.length)) ∧ Below w.heap.size w w' := by
  obtain ⟨la', c', hv, hle, hr⟩ := hrow
  obtain ⟨rfl, rfl⟩ : la = la' ∧ c = c' := by simp only [Value.slice.injEq] at hv; exact ⟨hv.1, hv.2.2⟩
  have HR := Lib.hid hr
  have HP := Lib.hid hp
  clear hr hp hv
  go_enter Tryz.func226, Tryz.ntmps226
  go_wp2_with fail
  go_loopg [5, 8] rows.length (fun gk _ s8 wr => ∃ k : Nat, k ≤ rows.length ∧ rows.length - k ≤ gk ∧ s8 = .int .i64 k ∧ Below w.heap.size w wr ∧ Hid (∀ j, j < k → p j = false))
  case atStart => exact ⟨0, Nat.zero_le _, by omega, rfl, Below.refl _ w, Lib.hid fun j hj => absurd hj (Nat.not_lt_zero _)⟩
  case round =>
    obtain ⟨k, hk, hg, rfl, hB, HA⟩ := hrel
    by_cases hlt : k < rows.length
    · obtain ⟨r, hrk⟩ : ∃ r, rows[k]? = some r := ⟨_, List.getElem?_eq_getElem hlt⟩
      obtain ⟨hlen, b, off, rfl, hb, hcell⟩ := HR.out k r hrk
      obtain ⟨c0, c1, rfl⟩ := two hlen
      have x0 : wr.cell? ⟨b, off + k * 2, none⟩ = some c0 := (hB.cell (p := ⟨b, off + k * 2 + 0, none⟩) hb).trans (hcell 0 _ rfl)
      have x1 : wr.cell? ⟨b, off + k * 2 + 1, none⟩ = some c1 := (hB.cell (p := ⟨b, off + k * 2 + 1, none⟩) hb).trans (hcell 1 _ rfl)
      have hcall := HP.out wr k _ hrk hB
      have hltz : (k : Int) < (rows.length : Int) := by omega
      have HB := Lib.hid hB
      clear hcell hrk hlen hB
      cases hq : p k with
      | true =>
        rw [hq] at hcall
        have HQ := Lib.hid hq
        clear hq
        go_wp2_with (go_at_fn g; refine hcall.mono ?_; rintro e w' ⟨rfl, hb'⟩)
        go_ret
        exact ⟨by rw [idxN_hit hlt HQ.out HA.out]; rfl, HB.out.trans (hb'.mono HB.out.size)⟩
      | false =>
        rw [hq] at hcall
        have HQ := Lib.hid hq
        clear hq
        go_wp2_with (go_at_fn g; refine hcall.mono ?_; rintro e w' ⟨rfl, hb'⟩)
        go_roundg (rows.length - (k + 1))
        case measure => omega
        case rel => exact ⟨k + 1, by omega, by omega, by go_num, HB.out.trans (hb'.mono HB.out.size), Lib.hid fun j hj => by rcases (show j < k ∨ j = k by omega) with h9 | rfl; exact HA.out j h9; exact HQ.out⟩
    · have hltz : ¬ (k : Int) < (rows.length : Int) := by omega
      obtain rfl : k = rows.length := by omega
      have HB := Lib.hid hB
      clear hB
      go_wp2_with fail
      go_ret
      exact ⟨by rw [idxN_miss HA.out]; rfl, HB.out⟩
set_option maxRecDepth 100000 in
theorem cont_data (la : Option Addr) (c : Nat) (rows : List (List Value)) (p : Nat → Bool) (g : Nat) (lb : Array Value) (eg : ∀ args w, (callFunc g args).run Tryz.prog w = .ok (.enter g args) w) (w : World)
    (hrow : RowAt w 2 (.slice la rows.length c) rows) (hp : PredRow g lb rows p w) :
    Calls Tryz.prog 177 #[.slice la rows.length c, .func (.func g) #[] lb] w fun e w' => e = .returned (.bool (anyN p rows.length)) ∧ Below w.heap.size w w' := by
  rw [anyN_iff]
  have hcall := idx_data la c rows p g lb eg w hrow hp
  obtain ⟨R, hR⟩ : ∃ R, idxN p rows.length = R := ⟨_, rfl⟩
  rw [hR] at hcall ⊢
  clear hR hp hrow
  go_enter Tryz.func177, Tryz.ntmps177
  go_wp2_with (go_at_call 226; refine hcall.mono ?_; rintro e w' ⟨rfl, hb'⟩)
  go_ret
  exact ⟨rfl, hb'⟩
set_option maxRecDepth 100000 in
set_option maxHeartbeats 1000000 in
theorem not_data (rows : List (List Value)) (q : Nat → Bool) (g : Nat) (eg : ∀ args w, (callFunc g args).run Tryz.prog w = .ok (.enter g args) w) (B : Nat) (w : World) (hlen : ∀ (j : Nat) (r : List Value), rows[j]? = some r → r.length = 2) (hB : B < w.heap.size) (hc : w.cell? ⟨B, 0, none⟩ = some (.func (.func g) #[] #[])) (hp : PredRow g #[] rows q w) :
    PredRow 178 #[.pointer (some ⟨B, 0, none⟩)] rows (fun j => !q j) w := fun W j r hr hb => by
  have hc' : W.cell? ⟨B, 0, none⟩ = some (.func (.func g) #[] #[]) := (hb.cell (p := ⟨B, 0, none⟩) hB).trans hc
  have hBW : B < W.heap.size := Nat.lt_of_lt_of_le hB hb.size
  obtain ⟨c0, c1, rfl⟩ := two (hlen j r hr)
  have hcall := hp (W.alloc (.cells #[c0, c1] 83)) j _ hr (hb.alloc hb.size _)
  have hBW2 : B < (W.alloc (.cells #[c0, c1] 83)).heap.size := by simp; omega
  show Calls Tryz.prog 178 #[.agg #[c0, c1], .pointer (some ⟨B, 0, none⟩)] W fun e w' => e = .returned (.bool (!q j)) ∧ Below W.heap.size W w'
  obtain ⟨Q, hQ⟩ : ∃ Q, q j = Q := ⟨_, rfl⟩
  rw [hQ] at hcall ⊢
  have hne : B ≠ W.heap.size := by omega
  clear hQ hp hr
  change Calls Tryz.prog g #[.agg #[c0, c1]] _ _ at hcall
  go_enter Tryz.func178, Tryz.ntmps178
  go_wp2_with (go_at_fn g; refine hcall.mono ?_; rintro e w' ⟨rfl, hb'⟩)
  go_ret
  exact ⟨rfl, ((Below.refl _ _).alloc (Nat.le_refl _) _).trans (hb'.mono (by simp))⟩
set_option maxRecDepth 100000 in
set_option maxHeartbeats 1000000 in
theorem all_data (la : Option Addr) (c : Nat) (rows : List (List Value)) (q : Nat → Bool) (g : Nat) (eg : ∀ args w, (callFunc g args).run Tryz.prog w = .ok (.enter g args) w) (w : World)
    (hrow : RowAt w 2 (.slice la rows.length c) rows) (hp : PredRow g #[] rows q w) :
    Calls Tryz.prog 113 #[.slice la rows.length c, .func (.func g) #[] #[]] w fun e w' => e = .returned (.bool (decide (rows.length ≤ 4096) && !anyN (fun j => !q j) rows.length)) ∧ Below w.heap.size w w' := by
  have ea : ∀ args w, (callFunc 178 args).run Tryz.prog w = .ok (.enter 178 args) w := enters_of Tryz.func178 (by kernel_rfl) rfl
  have hB1 : Below w.heap.size w (w.alloc (.cells #[.func (.func g) #[] #[]] 176)) := (Below.refl _ _).alloc (Nat.le_refl _) _
  by_cases hle : rows.length ≤ 4096
  · have hcall := cont_data la c rows (fun j => !q j) 178 #[.pointer (some ⟨w.heap.size, 0, none⟩)] ea (w.alloc (.cells #[.func (.func g) #[] #[]] 176)) (hrow.later hB1)
      (not_data rows q g eg w.heap.size _ (fun j r hr => by obtain ⟨_, _, _, _, h⟩ := hrow; exact (h j r hr).1) (by simp) (by simp) (hp.rebase hB1))
    obtain ⟨Q, hQ⟩ : ∃ Q, anyN (fun j => !q j) rows.length = Q := ⟨_, rfl⟩
    rw [hQ] at hcall ⊢
    have hd : decide (rows.length ≤ 4096) = true := decide_eq_true hle
    rw [hd]
    clear hQ hp hrow
    go_enter Tryz.func113, Tryz.ntmps113
    go_wp2_with (go_at_call 177; refine hcall.mono ?_; rintro e w' ⟨rfl, hb'⟩)
    go_ret
    exact ⟨rfl, hB1.trans (hb'.mono (by simp))⟩
  · have hd : decide (rows.length ≤ 4096) = false := decide_eq_false hle
    rw [hd]
    clear hp hrow
    go_enter Tryz.func113, Tryz.ntmps113
    go_wp2_with fail
    go_ret
    exact ⟨rfl, hB1⟩
set_option maxRecDepth 100000 in
set_option maxHeartbeats 2000000 in
theorem idx_ins (la : Option Addr) (c : Nat) (rows : List (List Value)) (p : Nat → Bool) (g : Nat) (lb : Array Value) (eg : ∀ args w, (callFunc g args).run Tryz.prog w = .ok (.enter g args) w) (w : World)
    (hrow : RowAt w 4 (.slice la rows.length c) rows) (hp : PredRow g lb rows p w) :
    Calls Tryz.prog 169 #[.slice la rows.length c, .func (.func g) #[] lb] w fun e w' => e = .returned (.int .i64 (idxN p rows.length)) ∧ Below w.heap.size w w' := by
  obtain ⟨la', c', hv, hle, hr⟩ := hrow
  obtain ⟨rfl, rfl⟩ : la = la' ∧ c = c' := by simp only [Value.slice.injEq] at hv; exact ⟨hv.1, hv.2.2⟩
  have HR := Lib.hid hr
  have HP := Lib.hid hp
  clear hr hp hv
  go_enter Tryz.func169, Tryz.ntmps169
  go_wp2_with fail
  go_loopg [5, 8] rows.length (fun gk _ s8 wr => ∃ k : Nat, k ≤ rows.length ∧ rows.length - k ≤ gk ∧ s8 = .int .i64 k ∧ Below w.heap.size w wr ∧ Hid (∀ j, j < k → p j = false))
  case atStart => exact ⟨0, Nat.zero_le _, by omega, rfl, Below.refl _ w, Lib.hid fun j hj => absurd hj (Nat.not_lt_zero _)⟩
  case round =>
    obtain ⟨k, hk, hg, rfl, hB, HA⟩ := hrel
    by_cases hlt : k < rows.length
    · obtain ⟨r, hrk⟩ : ∃ r, rows[k]? = some r := ⟨_, List.getElem?_eq_getElem hlt⟩
      obtain ⟨hlen, b, off, rfl, hb, hcell⟩ := HR.out k r hrk
      obtain ⟨c0, c1, c2, c3, rfl⟩ := four hlen
      have x0 : wr.cell? ⟨b, off + k * 4, none⟩ = some c0 := (hB.cell (p := ⟨b, off + k * 4 + 0, none⟩) hb).trans (hcell 0 _ rfl)
      have x1 : wr.cell? ⟨b, off + k * 4 + 1, none⟩ = some c1 := (hB.cell (p := ⟨b, off + k * 4 + 1, none⟩) hb).trans (hcell 1 _ rfl)
      have x2 : wr.cell? ⟨b, off + k * 4 + 2, none⟩ = some c2 := (hB.cell (p := ⟨b, off + k * 4 + 2, none⟩) hb).trans (hcell 2 _ rfl)
      have x3 : wr.cell? ⟨b, off + k * 4 + 3, none⟩ = some c3 := (hB.cell (p := ⟨b, off + k * 4 + 3, none⟩) hb).trans (hcell 3 _ rfl)
      have hcall := HP.out wr k _ hrk hB
      have hltz : (k : Int) < (rows.length : Int) := by omega
      have HB := Lib.hid hB
      clear hcell hrk hlen hB
      cases hq : p k with
      | true =>
        rw [hq] at hcall
        have HQ := Lib.hid hq
        clear hq
        go_wp2_with (go_at_fn g; refine hcall.mono ?_; rintro e w' ⟨rfl, hb'⟩)
        go_ret
        exact ⟨by rw [idxN_hit hlt HQ.out HA.out]; rfl, HB.out.trans (hb'.mono HB.out.size)⟩
      | false =>
        rw [hq] at hcall
        have HQ := Lib.hid hq
        clear hq
        go_wp2_with (go_at_fn g; refine hcall.mono ?_; rintro e w' ⟨rfl, hb'⟩)
        go_roundg (rows.length - (k + 1))
        case measure => omega
        case rel => exact ⟨k + 1, by omega, by omega, by go_num, HB.out.trans (hb'.mono HB.out.size), Lib.hid fun j hj => by rcases (show j < k ∨ j = k by omega) with h9 | rfl; exact HA.out j h9; exact HQ.out⟩
    · have hltz : ¬ (k : Int) < (rows.length : Int) := by omega
      obtain rfl : k = rows.length := by omega
      have HB := Lib.hid hB
      clear hB
      go_wp2_with fail
      go_ret
      exact ⟨by rw [idxN_miss HA.out]; rfl, HB.out⟩
set_option maxRecDepth 100000 in
theorem cont_ins (la : Option Addr) (c : Nat) (rows : List (List Value)) (p : Nat → Bool) (g : Nat) (lb : Array Value) (eg : ∀ args w, (callFunc g args).run Tryz.prog w = .ok (.enter g args) w) (w : World)
    (hrow : RowAt w 4 (.slice la rows.length c) rows) (hp : PredRow g lb rows p w) :
    Calls Tryz.prog 104 #[.slice la rows.length c, .func (.func g) #[] lb] w fun e w' => e = .returned (.bool (anyN p rows.length)) ∧ Below w.heap.size w w' := by
  rw [anyN_iff]
  have hcall := idx_ins la c rows p g lb eg w hrow hp
  obtain ⟨R, hR⟩ : ∃ R, idxN p rows.length = R := ⟨_, rfl⟩
  rw [hR] at hcall ⊢
  clear hR hp hrow
  go_enter Tryz.func104, Tryz.ntmps104
  go_wp2_with (go_at_call 169; refine hcall.mono ?_; rintro e w' ⟨rfl, hb'⟩)
  go_ret
  exact ⟨rfl, hb'⟩
end Go.Proofs.YteidhccnbfikcaaGreatDoor.Mod
