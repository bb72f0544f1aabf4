/-
  What package module's all, and slices.ContainsFunc, slices.IndexFunc, answer of a slice of structs. No condition beyond what each theorem names.
-/
import Derived.Test.YtmfdabkmijbffaaGreatDoorModDefs
import Derived.Deep.LoopGhost
namespace Go.Proofs.YtmfdabkmijbffaaGreatDoor.Mod
open Go.RowKit Go.Maps Go.Proofs.YtmfdabkmijbffaaGreatDoor.Op
set_option linter.unusedVariables false
set_option maxRecDepth 100000 in
set_option maxHeartbeats 2000000 in
theorem idx_ft (la : Option Addr) (c : Nat) (rows : List (List Value)) (p : Nat → Bool) (g : Nat) (lb : Array Value) (eg : ∀ args w, (callFunc g args).run Tryz.prog w = .ok (.enter g args) w) (w : World)
    (hrow : RowAt w 2 (.slice la rows.length c) rows) (hp : PredRow g lb rows p w) :
    Calls Tryz.prog 229 #[.slice la rows.length c, .func (.func g) #[] lb] w fun e w' => e = .returned (.int .i64 (idxN p rows.length)) ∧ Below w.heap.size w w' := by
  obtain ⟨la', c', hv, hle, hr⟩ := hrow
  obtain ⟨rfl, rfl⟩ : la = la' ∧ c = c' := by simp only [Value.slice.injEq] at hv; exact ⟨hv.1, hv.2.2⟩
  have HR := Lib.hid hr
  have HP := Lib.hid hp
  clear hr hp hv
  go_enter Tryz.func229, Tryz.ntmps229
  go_wp2_with fail
  go_loopg [5, 8] rows.length (fun gk _ s8 wr => ∃ k : Nat, k ≤ rows.length ∧ rows.length - k ≤ gk ∧ s8 = .int .i64 k ∧ Below w.heap.size w wr ∧ Hid (∀ j, j < k → p j = false))
  case atStart => exact ⟨0, Nat.zero_le _, by omega, rfl, Below.refl _ w, Lib.hid fun j hj => absurd hj (Nat.not_lt_zero _)⟩
  case round =>
    obtain ⟨k, hk, hg, rfl, hB, HA⟩ := hrel
    by_cases hlt : k < rows.length
    · obtain ⟨r, hrk⟩ : ∃ r, rows[k]? = some r := ⟨_, List.getElem?_eq_getElem hlt⟩
      obtain ⟨hlen, b, off, rfl, hb, hcell⟩ := HR.out k r hrk
      obtain ⟨c0, c1, rfl⟩ := two hlen
      have x0 : wr.cell? ⟨b, off + k * 2, none⟩ = some c0 := (hB.cell (p := ⟨b, off + k * 2 + 0, none⟩) hb).trans (hcell 0 _ rfl)
      have x1 : wr.cell? ⟨b, off + k * 2 + 1, none⟩ = some c1 := (hB.cell (p := ⟨b, off + k * 2 + 1, none⟩) hb).trans (hcell 1 _ rfl)
      have hcall := HP.out wr k _ hrk hB
      have hltz : (k : Int) < (rows.length : Int) := by omega
      have HB := Lib.hid hB
      clear hcell hrk hlen hB
      cases hq : p k with
      | true =>
        rw [hq] at hcall
        have HQ := Lib.hid hq
        clear hq
        go_wp2_with (go_at_fn g; refine hcall.mono ?_; rintro e w' ⟨rfl, hb'⟩)
        go_ret
        exact ⟨by rw [idxN_hit hlt HQ.out HA.out]; rfl, HB.out.trans (hb'.mono HB.out.size)⟩
      | false =>
        rw [hq] at hcall
        have HQ := Lib.hid hq
        clear hq
        go_wp2_with (go_at_fn g; refine hcall.mono ?_; rintro e w' ⟨rfl, hb'⟩)
        go_roundg (rows.length - (k + 1))
        case measure => omega
        case rel => exact ⟨k + 1, by omega, by omega, by go_num, HB.out.trans (hb'.mono HB.out.size), Lib.hid fun j hj => by rcases (show j < k ∨ j = k by omega) with h9 | rfl; exact HA.out j h9; exact HQ.out⟩
    · have hltz : ¬ (k : Int) < (rows.length : Int) := by omega
      obtain rfl : k = rows.length := by omega
      have HB := Lib.hid hB
      clear hB
      go_wp2_with fail
      go_ret
      exact ⟨by rw [idxN_miss HA.out]; rfl, HB.out⟩
set_option maxRecDepth 100000 in
theorem cont_ft (la : Option Addr) (c : Nat) (rows : List (List Value)) (p : Nat → Bool) (g : Nat) (lb : Array Value) (eg : ∀ args w, (callFunc g args).run Tryz.prog w = .ok (.enter g args) w) (w : World)
    (hrow : RowAt w 2 (.slice la rows.length c) rows) (hp : PredRow g lb rows p w) :
    Calls Tryz.prog 179 #[.slice la rows.length c, .func (.func g) #[] lb] w fun e w' => e = .returned (.bool (anyN p rows.length)) ∧ Below w.heap.size w w' := by
  rw [anyN_iff]
  have hcall := idx_ft la c rows p g lb eg w hrow hp
  obtain ⟨R, hR⟩ : ∃ R, idxN p rows.length = R := ⟨_, rfl⟩
  rw [hR] at hcall ⊢
  clear hR hp hrow
  go_enter Tryz.func179, Tryz.ntmps179
  go_wp2_with (go_at_call 229; refine hcall.mono ?_; rintro e w' ⟨rfl, hb'⟩)
  go_ret
  exact ⟨rfl, hb'⟩
set_option maxRecDepth 100000 in
set_option maxHeartbeats 1000000 in
theorem not_ft (rows : List (List Value)) (q : Nat → Bool) (g : Nat) (eg : ∀ args w, (callFunc g args).run Tryz.prog w = .ok (.enter g args) w) (B : Nat) (w : World) (hlen : ∀ (j : Nat) (r : List Value), rows[j]? = some r → r.length = 2) (hB : B < w.heap.size) (hc : w.cell? ⟨B, 0, none⟩ = some (.func (.func g) #[] #[])) (hp : PredRow g #[] rows q w) :
    PredRow 180 #[.pointer (some ⟨B, 0, none⟩)] rows (fun j => !q j) w := fun W j r hr hb => by
  have hc' : W.cell? ⟨B, 0, none⟩ = some (.func (.func g) #[] #[]) := (hb.cell (p := ⟨B, 0, none⟩) hB).trans hc
  have hBW : B < W.heap.size := Nat.lt_of_lt_of_le hB hb.size
  obtain ⟨c0, c1, rfl⟩ := two (hlen j r hr)
  have hcall := hp (W.alloc (.cells #[c0, c1] 82)) j _ hr (hb.alloc hb.size _)
  have hBW2 : B < (W.alloc (.cells #[c0, c1] 82)).heap.size := by simp; omega
  show Calls Tryz.prog 180 #[.agg #[c0, c1], .pointer (some ⟨B, 0, none⟩)] W fun e w' => e = .returned (.bool (!q j)) ∧ Below W.heap.size W w'
  obtain ⟨Q, hQ⟩ : ∃ Q, q j = Q := ⟨_, rfl⟩
  rw [hQ] at hcall ⊢
  have hne : B ≠ W.heap.size := by omega
  clear hQ hp hr
  change Calls Tryz.prog g #[.agg #[c0, c1]] _ _ at hcall
  go_enter Tryz.func180, Tryz.ntmps180
  go_wp2_with (go_at_fn g; refine hcall.mono ?_; rintro e w' ⟨rfl, hb'⟩)
  go_ret
  exact ⟨rfl, ((Below.refl _ _).alloc (Nat.le_refl _) _).trans (hb'.mono (by simp))⟩
set_option maxRecDepth 100000 in
set_option maxHeartbeats 1000000 in
theorem all_ft (la : Option Addr) (c : Nat) (rows : List (List Value)) (q : Nat → Bool) (g : Nat) (eg : ∀ args w, (callFunc g args).run Tryz.prog w = .ok (.enter g args) w) (w : World)
    (hrow : RowAt w 2 (.slice la rows.length c) rows) (hp : PredRow g #[] rows q w) :
    Calls Tryz.prog 106 #[.slice la rows.length c, .func (.func g) #[] #[]] w fun e w' => e = .returned (.bool (decide (rows.length ≤ 4096) && !anyN (fun j => !q j) rows.length)) ∧ Below w.heap.size w w' := by
  have ea : ∀ args w, (callFunc 180 args).run Tryz.prog w = .ok (.enter 180 args) w := enters_of Tryz.func180 (by kernel_rfl) rfl
  have hB1 : Below w.heap.size w (w.alloc (.cells #[.func (.func g) #[] #[]] 175)) := (Below.refl _ _).alloc (Nat.le_refl _) _
  by_cases hle : rows.length ≤ 4096
  · have hcall := cont_ft la c rows (fun j => !q j) 180 #[.pointer (some ⟨w.heap.size, 0, none⟩)] ea (w.alloc (.cells #[.func (.func g) #[] #[]] 175)) (hrow.later hB1)
      (not_ft rows q g eg w.heap.size _ (fun j r hr => by obtain ⟨_, _, _, _, h⟩ := hrow; exact (h j r hr).1) (by simp) (by simp) (hp.rebase hB1))
    obtain ⟨Q, hQ⟩ : ∃ Q, anyN (fun j => !q j) rows.length = Q := ⟨_, rfl⟩
    rw [hQ] at hcall ⊢
    have hd : decide (rows.length ≤ 4096) = true := decide_eq_true hle
    rw [hd]
    clear hQ hp hrow
    go_enter Tryz.func106, Tryz.ntmps106
    go_wp2_with (go_at_call 179; refine hcall.mono ?_; rintro e w' ⟨rfl, hb'⟩)
    go_ret
    exact ⟨rfl, hB1.trans (hb'.mono (by simp))⟩
  · have hd : decide (rows.length ≤ 4096) = false := decide_eq_false hle
    rw [hd]
    clear hp hrow
    go_enter Tryz.func106, Tryz.ntmps106
    go_wp2_with fail
    go_ret
    exact ⟨rfl, hB1⟩
set_option maxRecDepth 100000 in
set_option maxHeartbeats 2000000 in
theorem idx_func (la : Option Addr) (c : Nat) (rows : List (List Value)) (p : Nat → Bool) (g : Nat) (lb : Array Value) (eg : ∀ args w, (callFunc g args).run Tryz.prog w = .ok (.enter g args) w) (w : World)
    (hrow : RowAt w 3 (.slice la rows.length c) rows) (hp : PredRow g lb rows p w) :
    Calls Tryz.prog 237 #[.slice la rows.length c, .func (.func g) #[] lb] w fun e w' => e = .returned (.int .i64 (idxN p rows.length)) ∧ Below w.heap.size w w' := by
  obtain ⟨la', c', hv, hle, hr⟩ := hrow
  obtain ⟨rfl, rfl⟩ : la = la' ∧ c = c' := by simp only [Value.slice.injEq] at hv; exact ⟨hv.1, hv.2.2⟩
  have HR := Lib.hid hr
  have HP := Lib.hid hp
  clear hr hp hv
  go_enter Tryz.func237, Tryz.ntmps237
  go_wp2_with fail
  go_loopg [5, 8] rows.length (fun gk _ s8 wr => ∃ k : Nat, k ≤ rows.length ∧ rows.length - k ≤ gk ∧ s8 = .int .i64 k ∧ Below w.heap.size w wr ∧ Hid (∀ j, j < k → p j = false))
  case atStart => exact ⟨0, Nat.zero_le _, by omega, rfl, Below.refl _ w, Lib.hid fun j hj => absurd hj (Nat.not_lt_zero _)⟩
  case round =>
    obtain ⟨k, hk, hg, rfl, hB, HA⟩ := hrel
    by_cases hlt : k < rows.length
    · obtain ⟨r, hrk⟩ : ∃ r, rows[k]? = some r := ⟨_, List.getElem?_eq_getElem hlt⟩
      obtain ⟨hlen, b, off, rfl, hb, hcell⟩ := HR.out k r hrk
      obtain ⟨c0, c1, c2, rfl⟩ := three hlen
      have x0 : wr.cell? ⟨b, off + k * 3, none⟩ = some c0 := (hB.cell (p := ⟨b, off + k * 3 + 0, none⟩) hb).trans (hcell 0 _ rfl)
      have x1 : wr.cell? ⟨b, off + k * 3 + 1, none⟩ = some c1 := (hB.cell (p := ⟨b, off + k * 3 + 1, none⟩) hb).trans (hcell 1 _ rfl)
      have x2 : wr.cell? ⟨b, off + k * 3 + 2, none⟩ = some c2 := (hB.cell (p := ⟨b, off + k * 3 + 2, none⟩) hb).trans (hcell 2 _ rfl)
      have hcall := HP.out wr k _ hrk hB
      have hltz : (k : Int) < (rows.length : Int) := by omega
      have HB := Lib.hid hB
      clear hcell hrk hlen hB
      cases hq : p k with
      | true =>
        rw [hq] at hcall
        have HQ := Lib.hid hq
        clear hq
        go_wp2_with (go_at_fn g; refine hcall.mono ?_; rintro e w' ⟨rfl, hb'⟩)
        go_ret
        exact ⟨by rw [idxN_hit hlt HQ.out HA.out]; rfl, HB.out.trans (hb'.mono HB.out.size)⟩
      | false =>
        rw [hq] at hcall
        have HQ := Lib.hid hq
        clear hq
        go_wp2_with (go_at_fn g; refine hcall.mono ?_; rintro e w' ⟨rfl, hb'⟩)
        go_roundg (rows.length - (k + 1))
        case measure => omega
        case rel => exact ⟨k + 1, by omega, by omega, by go_num, HB.out.trans (hb'.mono HB.out.size), Lib.hid fun j hj => by rcases (show j < k ∨ j = k by omega) with h9 | rfl; exact HA.out j h9; exact HQ.out⟩
    · have hltz : ¬ (k : Int) < (rows.length : Int) := by omega
      obtain rfl : k = rows.length := by omega
      have HB := Lib.hid hB
      clear hB
      go_wp2_with fail
      go_ret
      exact ⟨by rw [idxN_miss HA.out]; rfl, HB.out⟩
set_option maxRecDepth 100000 in
theorem cont_func (la : Option Addr) (c : Nat) (rows : List (List Value)) (p : Nat → Bool) (g : Nat) (lb : Array Value) (eg : ∀ args w, (callFunc g args).run Tryz.prog w = .ok (.enter g args) w) (w : World)
    (hrow : RowAt w 3 (.slice la rows.length c) rows) (hp : PredRow g lb rows p w) :
    Calls Tryz.prog 182 #[.slice la rows.length c, .func (.func g) #[] lb] w fun e w' => e = .returned (.bool (anyN p rows.length)) ∧ Below w.heap.size w w' := by
  rw [anyN_iff]
  have hcall := idx_func la c rows p g lb eg w hrow hp
  obtain ⟨R, hR⟩ : ∃ R, idxN p rows.length = R := ⟨_, rfl⟩
  rw [hR] at hcall ⊢
  clear hR hp hrow
  go_enter Tryz.func182, Tryz.ntmps182
  go_wp2_with (go_at_call 237; refine hcall.mono ?_; rintro e w' ⟨rfl, hb'⟩)
  go_ret
  exact ⟨rfl, hb'⟩
set_option maxRecDepth 100000 in
set_option maxHeartbeats 1000000 in
theorem not_func (rows : List (List Value)) (q : Nat → Bool) (g : Nat) (eg : ∀ args w, (callFunc g args).run Tryz.prog w = .ok (.enter g args) w) (B : Nat) (w : World) (hlen : ∀ (j : Nat) (r : List Value), rows[j]? = some r → r.length = 3) (hB : B < w.heap.size) (hc : w.cell? ⟨B, 0, none⟩ = some (.func (.func g) #[] #[])) (hp : PredRow g #[] rows q w) :
    PredRow 183 #[.pointer (some ⟨B, 0, none⟩)] rows (fun j => !q j) w := fun W j r hr hb => by
  have hc' : W.cell? ⟨B, 0, none⟩ = some (.func (.func g) #[] #[]) := (hb.cell (p := ⟨B, 0, none⟩) hB).trans hc
  have hBW : B < W.heap.size := Nat.lt_of_lt_of_le hB hb.size
  obtain ⟨c0, c1, c2, rfl⟩ := three (hlen j r hr)
  have hcall := hp (W.alloc (.cells #[c0, c1, c2] 84)) j _ hr (hb.alloc hb.size _)
  have hBW2 : B < (W.alloc (.cells #[c0, c1, c2] 84)).heap.size := by simp; omega
  show Calls Tryz.prog 183 #[.agg #[c0, c1, c2], .pointer (some ⟨B, 0, none⟩)] W fun e w' => e = .returned (.bool (!q j)) ∧ Below W.heap.size W w'
  obtain ⟨Q, hQ⟩ : ∃ Q, q j = Q := ⟨_, rfl⟩
  rw [hQ] at hcall ⊢
  have hne : B ≠ W.heap.size := by omega
  clear hQ hp hr
  change Calls Tryz.prog g #[.agg #[c0, c1, c2]] _ _ at hcall
  go_enter Tryz.func183, Tryz.ntmps183
  go_wp2_with (go_at_fn g; refine hcall.mono ?_; rintro e w' ⟨rfl, hb'⟩)
  go_ret
  exact ⟨rfl, ((Below.refl _ _).alloc (Nat.le_refl _) _).trans (hb'.mono (by simp))⟩
set_option maxRecDepth 100000 in
set_option maxHeartbeats 1000000 in
theorem all_func (la : Option Addr) (c : Nat) (rows : List (List Value)) (q : Nat → Bool) (g : Nat) (eg : ∀ args w, (callFunc g args).run Tryz.prog w = .ok (.enter g args) w) (w : World)
    (hrow : RowAt w 3 (.slice la rows.length c) rows) (hp : PredRow g #[] rows q w) :
    Calls Tryz.prog 109 #[.slice la rows.length c, .func (.func g) #[] #[]] w fun e w' => e = .returned (.bool (decide (rows.length ≤ 4096) && !anyN (fun j => !q j) rows.length)) ∧ Below w.heap.size w w' := by
  have ea : ∀ args w, (callFunc 183 args).run Tryz.prog w = .ok (.enter 183 args) w := enters_of Tryz.func183 (by kernel_rfl) rfl
  have hB1 : Below w.heap.size w (w.alloc (.cells #[.func (.func g) #[] #[]] 179)) := (Below.refl _ _).alloc (Nat.le_refl _) _
  by_cases hle : rows.length ≤ 4096
  · have hcall := cont_func la c rows (fun j => !q j) 183 #[.pointer (some ⟨w.heap.size, 0, none⟩)] ea (w.alloc (.cells #[.func (.func g) #[] #[]] 179)) (hrow.later hB1)
      (not_func rows q g eg w.heap.size _ (fun j r hr => by obtain ⟨_, _, _, _, h⟩ := hrow; exact (h j r hr).1) (by simp) (by simp) (hp.rebase hB1))
    obtain ⟨Q, hQ⟩ : ∃ Q, anyN (fun j => !q j) rows.length = Q := ⟨_, rfl⟩
    rw [hQ] at hcall ⊢
    have hd : decide (rows.length ≤ 4096) = true := decide_eq_true hle
    rw [hd]
    clear hQ hp hrow
    go_enter Tryz.func109, Tryz.ntmps109
    go_wp2_with (go_at_call 182; refine hcall.mono ?_; rintro e w' ⟨rfl, hb'⟩)
    go_ret
    exact ⟨rfl, hB1.trans (hb'.mono (by simp))⟩
  · have hd : decide (rows.length ≤ 4096) = false := decide_eq_false hle
    rw [hd]
    clear hp hrow
    go_enter Tryz.func109, Tryz.ntmps109
    go_wp2_with fail
    go_ret
    exact ⟨rfl, hB1⟩
set_option maxRecDepth 100000 in
set_option maxHeartbeats 2000000 in
theorem idx_mem (la : Option Addr) (c : Nat) (rows : List (List Value)) (p : Nat → Bool) (g : Nat) (lb : Array Value) (eg : ∀ args w, (callFunc g args).run Tryz.prog w = .ok (.enter g args) w) (w : World)
    (hrow : RowAt w 2 (.slice la rows.length c) rows) (hp : PredRow g lb rows p w) :
    Calls Tryz.prog 238 #[.slice la rows.length c, .func (.func g) #[] lb] w fun e w' => e = .returned (.int .i64 (idxN p rows.length)) ∧ Below w.heap.size w w' := by
  obtain ⟨la', c', hv, hle, hr⟩ := hrow
  obtain ⟨rfl, rfl⟩ : la = la' ∧ c = c' := by simp only [Value.slice.injEq] at hv; exact ⟨hv.1, hv.2.2⟩
  have HR := Lib.hid hr
  have HP := Lib.hid hp
  clear hr hp hv
  go_enter Tryz.func238, Tryz.ntmps238
  go_wp2_with fail
  go_loopg [5, 8] rows.length (fun gk _ s8 wr => ∃ k : Nat, k ≤ rows.length ∧ rows.length - k ≤ gk ∧ s8 = .int .i64 k ∧ Below w.heap.size w wr ∧ Hid (∀ j, j < k → p j = false))
  case atStart => exact ⟨0, Nat.zero_le _, by omega, rfl, Below.refl _ w, Lib.hid fun j hj => absurd hj (Nat.not_lt_zero _)⟩
  case round =>
    obtain ⟨k, hk, hg, rfl, hB, HA⟩ := hrel
    by_cases hlt : k < rows.length
    · obtain ⟨r, hrk⟩ : ∃ r, rows[k]? = some r := ⟨_, List.getElem?_eq_getElem hlt⟩
      obtain ⟨hlen, b, off, rfl, hb, hcell⟩ := HR.out k r hrk
      obtain ⟨c0, c1, rfl⟩ := two hlen
      have x0 : wr.cell? ⟨b, off + k * 2, none⟩ = some c0 := (hB.cell (p := ⟨b, off + k * 2 + 0, none⟩) hb).trans (hcell 0 _ rfl)
      have x1 : wr.cell? ⟨b, off + k * 2 + 1, none⟩ = some c1 := (hB.cell (p := ⟨b, off + k * 2 + 1, none⟩) hb).trans (hcell 1 _ rfl)
      have hcall := HP.out wr k _ hrk hB
      have hltz : (k : Int) < (rows.length : Int) := by omega
      have HB := Lib.hid hB
      clear hcell hrk hlen hB
      cases hq : p k with
      | true =>
        rw [hq] at hcall
        have HQ := Lib.hid hq
        clear hq
        go_wp2_with (go_at_fn g; refine hcall.mono ?_; rintro e w' ⟨rfl, hb'⟩)
        go_ret
        exact ⟨by rw [idxN_hit hlt HQ.out HA.out]; rfl, HB.out.trans (hb'.mono HB.out.size)⟩
      | false =>
        rw [hq] at hcall
        have HQ := Lib.hid hq
        clear hq
        go_wp2_with (go_at_fn g; refine hcall.mono ?_; rintro e w' ⟨rfl, hb'⟩)
        go_roundg (rows.length - (k + 1))
        case measure => omega
        case rel => exact ⟨k + 1, by omega, by omega, by go_num, HB.out.trans (hb'.mono HB.out.size), Lib.hid fun j hj => by rcases (show j < k ∨ j = k by omega) with h9 | rfl; exact HA.out j h9; exact HQ.out⟩
    · have hltz : ¬ (k : Int) < (rows.length : Int) := by omega
      obtain rfl : k = rows.length := by omega
      have HB := Lib.hid hB
      clear hB
      go_wp2_with fail
      go_ret
      exact ⟨by rw [idxN_miss HA.out]; rfl, HB.out⟩
set_option maxRecDepth 100000 in
theorem cont_mem (la : Option Addr) (c : Nat) (rows : List (List Value)) (p : Nat → Bool) (g : Nat) (lb : Array Value) (eg : ∀ args w, (callFunc g args).run Tryz.prog w = .ok (.enter g args) w) (w : World)
    (hrow : RowAt w 2 (.slice la rows.length c) rows) (hp : PredRow g lb rows p w) :
    Calls Tryz.prog 185 #[.slice la rows.length c, .func (.func g) #[] lb] w fun e w' => e = .returned (.bool (anyN p rows.length)) ∧ Below w.heap.size w w' := by
  rw [anyN_iff]
  have hcall := idx_mem la c rows p g lb eg w hrow hp
  obtain ⟨R, hR⟩ : ∃ R, idxN p rows.length = R := ⟨_, rfl⟩
  rw [hR] at hcall ⊢
  clear hR hp hrow
  go_enter Tryz.func185, Tryz.ntmps185
  go_wp2_with (go_at_call 238; refine hcall.mono ?_; rintro e w' ⟨rfl, hb'⟩)
  go_ret
  exact ⟨rfl, hb'⟩
set_option maxRecDepth 100000 in
set_option maxHeartbeats 1000000 in
theorem not_mem (rows : List (List Value)) (q : Nat → Bool) (g : Nat) (eg : ∀ args w, (callFunc g args).run Tryz.prog w = .ok (.enter g args) w) (B : Nat) (w : World) (hlen : ∀ (j : Nat) (r : List Value), rows[j]? = some r → r.length = 2) (hB : B < w.heap.size) (hc : w.cell? ⟨B, 0, none⟩ = some (.func (.func g) #[] #[])) (hp : PredRow g #[] rows q w) :
    PredRow 186 #[.pointer (some ⟨B, 0, none⟩)] rows (fun j => !q j) w := fun W j r hr hb => by
  have hc' : W.cell? ⟨B, 0, none⟩ = some (.func (.func g) #[] #[]) := (hb.cell (p := ⟨B, 0, none⟩) hB).trans hc
  have hBW : B < W.heap.size := Nat.lt_of_lt_of_le hB hb.size
  obtain ⟨c0, c1, rfl⟩ := two (hlen j r hr)
  have hcall := hp (W.alloc (.cells #[c0, c1] 86)) j _ hr (hb.alloc hb.size _)
  have hBW2 : B < (W.alloc (.cells #[c0, c1] 86)).heap.size := by simp; omega
  show Calls Tryz.prog 186 #[.agg #[c0, c1], .pointer (some ⟨B, 0, none⟩)] W fun e w' => e = .returned (.bool (!q j)) ∧ Below W.heap.size W w'
  obtain ⟨Q, hQ⟩ : ∃ Q, q j = Q := ⟨_, rfl⟩
  rw [hQ] at hcall ⊢
  have hne : B ≠ W.heap.size := by omega
  clear hQ hp hr
  change Calls Tryz.prog g #[.agg #[c0, c1]] _ _ at hcall
  go_enter Tryz.func186, Tryz.ntmps186
  go_wp2_with (go_at_fn g; refine hcall.mono ?_; rintro e w' ⟨rfl, hb'⟩)
  go_ret
  exact ⟨rfl, ((Below.refl _ _).alloc (Nat.le_refl _) _).trans (hb'.mono (by simp))⟩
set_option maxRecDepth 100000 in
set_option maxHeartbeats 1000000 in
theorem all_mem (la : Option Addr) (c : Nat) (rows : List (List Value)) (q : Nat → Bool) (g : Nat) (eg : ∀ args w, (callFunc g args).run Tryz.prog w = .ok (.enter g args) w) (w : World)
    (hrow : RowAt w 2 (.slice la rows.length c) rows) (hp : PredRow g #[] rows q w) :
    Calls Tryz.prog 114 #[.slice la rows.length c, .func (.func g) #[] #[]] w fun e w' => e = .returned (.bool (decide (rows.length ≤ 4096) && !anyN (fun j => !q j) rows.length)) ∧ Below w.heap.size w w' := by
  have ea : ∀ args w, (callFunc 186 args).run Tryz.prog w = .ok (.enter 186 args) w := enters_of Tryz.func186 (by kernel_rfl) rfl
  have hB1 : Below w.heap.size w (w.alloc (.cells #[.func (.func g) #[] #[]] 181)) := (Below.refl _ _).alloc (Nat.le_refl _) _
  by_cases hle : rows.length ≤ 4096
  · have hcall := cont_mem la c rows (fun j => !q j) 186 #[.pointer (some ⟨w.heap.size, 0, none⟩)] ea (w.alloc (.cells #[.func (.func g) #[] #[]] 181)) (hrow.later hB1)
      (not_mem rows q g eg w.heap.size _ (fun j r hr => by obtain ⟨_, _, _, _, h⟩ := hrow; exact (h j r hr).1) (by simp) (by simp) (hp.rebase hB1))
    obtain ⟨Q, hQ⟩ : ∃ Q, anyN (fun j => !q j) rows.length = Q := ⟨_, rfl⟩
    rw [hQ] at hcall ⊢
    have hd : decide (rows.length ≤ 4096) = true := decide_eq_true hle
    rw [hd]
    clear hQ hp hrow
    go_enter Tryz.func114, Tryz.ntmps114
    go_wp2_with (go_at_call 185; refine hcall.mono ?_; rintro e w' ⟨rfl, hb'⟩)
    go_ret
    exact ⟨rfl, hB1.trans (hb'.mono (by simp))⟩
  · have hd : decide (rows.length ≤ 4096) = false := decide_eq_false hle
    rw [hd]
    clear hp hrow
    go_enter Tryz.func114, Tryz.ntmps114
    go_wp2_with fail
    go_ret
    exact ⟨rfl, hB1⟩
set_option maxRecDepth 100000 in
set_option maxHeartbeats 2000000 in
theorem idx_glob (la : Option Addr) (c : Nat) (rows : List (List Value)) (p : Nat → Bool) (g : Nat) (lb : Array Value) (eg : ∀ args w, (callFunc g args).run Tryz.prog w = .ok (.enter g args) w) (w : World)
    (hrow : RowAt w 3 (.slice la rows.length c) rows) (hp : PredRow g lb rows p w) :
    Calls Tryz.prog 239 #[.slice la rows.length c, .func (.func g) #[] lb] w fun e w' => e = .returned (.int .i64 (idxN p rows.length)) ∧ Below w.heap.size w w' := by
  obtain ⟨la', c', hv, hle, hr⟩ := hrow
  obtain ⟨rfl, rfl⟩ : la = la' ∧ c = c' := by simp only [Value.slice.injEq] at hv; exact ⟨hv.1, hv.2.2⟩
  have HR := Lib.hid hr
  have HP := Lib.hid hp
  clear hr hp hv
  go_enter Tryz.func239, Tryz.ntmps239
  go_wp2_with fail
  go_loopg [5, 8] rows.length (fun gk _ s8 wr => ∃ k : Nat, k ≤ rows.length ∧ rows.length - k ≤ gk ∧ s8 = .int .i64 k ∧ Below w.heap.size w wr ∧ Hid (∀ j, j < k → p j = false))
  case atStart => exact ⟨0, Nat.zero_le _, by omega, rfl, Below.refl _ w, Lib.hid fun j hj => absurd hj (Nat.not_lt_zero _)⟩
  case round =>
    obtain ⟨k, hk, hg, rfl, hB, HA⟩ := hrel
    by_cases hlt : k < rows.length
    · obtain ⟨r, hrk⟩ : ∃ r, rows[k]? = some r := ⟨_, List.getElem?_eq_getElem hlt⟩
      obtain ⟨hlen, b, off, rfl, hb, hcell⟩ := HR.out k r hrk
      obtain ⟨c0, c1, c2, rfl⟩ := three hlen
      have x0 : wr.cell? ⟨b, off + k * 3, none⟩ = some c0 := (hB.cell (p := ⟨b, off + k * 3 + 0, none⟩) hb).trans (hcell 0 _ rfl)
      have x1 : wr.cell? ⟨b, off + k * 3 + 1, none⟩ = some c1 := (hB.cell (p := ⟨b, off + k * 3 + 1, none⟩) hb).trans (hcell 1 _ rfl)
      have x2 : wr.cell? ⟨b, off + k * 3 + 2, none⟩ = some c2 := (hB.cell (p := ⟨b, off + k * 3 + 2, none⟩) hb).trans (hcell 2 _ rfl)
      have hcall := HP.out wr k _ hrk hB
      have hltz : (k : Int) < (rows.length : Int) := by omega
      have HB := Lib.hid hB
      clear hcell hrk hlen hB
      cases hq : p k with
      | true =>
        rw [hq] at hcall
        have HQ := Lib.hid hq
        clear hq
        go_wp2_with (go_at_fn g; refine hcall.mono ?_; rintro e w' ⟨rfl, hb'⟩)
        go_ret
        exact ⟨by rw [idxN_hit hlt HQ.out HA.out]; rfl, HB.out.trans (hb'.mono HB.out.size)⟩
      | false =>
        rw [hq] at hcall
        have HQ := Lib.hid hq
        clear hq
        go_wp2_with (go_at_fn g; refine hcall.mono ?_; rintro e w' ⟨rfl, hb'⟩)
        go_roundg (rows.length - (k + 1))
        case measure => omega
        case rel => exact ⟨k + 1, by omega, by omega, by go_num, HB.out.trans (hb'.mono HB.out.size), Lib.hid fun j hj => by rcases (show j < k ∨ j = k by omega) with h9 | rfl; exact HA.out j h9; exact HQ.out⟩
    · have hltz : ¬ (k : Int) < (rows.length : Int) := by omega
      obtain rfl : k = rows.length := by omega
      have HB := Lib.hid hB
      clear hB
      go_wp2_with fail
      go_ret
      exact ⟨by rw [idxN_miss HA.out]; rfl, HB.out⟩
set_option maxRecDepth 100000 in
theorem cont_glob (la : Option Addr) (c : Nat) (rows : List (List Value)) (p : Nat → Bool) (g : Nat) (lb : Array Value) (eg : ∀ args w, (callFunc g args).run Tryz.prog w = .ok (.enter g args) w) (w : World)
    (hrow : RowAt w 3 (.slice la rows.length c) rows) (hp : PredRow g lb rows p w) :
    Calls Tryz.prog 187 #[.slice la rows.length c, .func (.func g) #[] lb] w fun e w' => e = .returned (.bool (anyN p rows.length)) ∧ Below w.heap.size w w' := by
  rw [anyN_iff]
  have hcall := idx_glob la c rows p g lb eg w hrow hp
  obtain ⟨R, hR⟩ : ∃ R, idxN p rows.length = R := ⟨_, rfl⟩
  rw [hR] at hcall ⊢
  clear hR hp hrow
  go_enter Tryz.func187, Tryz.ntmps187
  go_wp2_with (go_at_call 239; refine hcall.mono ?_; rintro e w' ⟨rfl, hb'⟩)
  go_ret
  exact ⟨rfl, hb'⟩
set_option maxRecDepth 100000 in
set_option maxHeartbeats 1000000 in
theorem not_glob (rows : List (List Value)) (q : Nat → Bool) (g : Nat) (eg : ∀ args w, (callFunc g args).run Tryz.prog w = .ok (.enter g args) w) (B : Nat) (w : World) (hlen : ∀ (j : Nat) (r : List Value), rows[j]? = some r → r.length = 3) (hB : B < w.heap.size) (hc : w.cell? ⟨B, 0, none⟩ = some (.func (.func g) #[] #[])) (hp : PredRow g #[] rows q w) :
    PredRow 188 #[.pointer (some ⟨B, 0, none⟩)] rows (fun j => !q j) w := fun W j r hr hb => by
  have hc' : W.cell? ⟨B, 0, none⟩ = some (.func (.func g) #[] #[]) := (hb.cell (p := ⟨B, 0, none⟩) hB).trans hc
  have hBW : B < W.heap.size := Nat.lt_of_lt_of_le hB hb.size
  obtain ⟨c0, c1, c2, rfl⟩ := three (hlen j r hr)
  have hcall := hp (W.alloc (.cells #[c0, c1, c2] 88)) j _ hr (hb.alloc hb.size _)
  have hBW2 : B < (W.alloc (.cells #[c0, c1, c2] 88)).heap.size := by simp; omega
  show Calls Tryz.prog 188 #[.agg #[c0, c1, c2], .pointer (some ⟨B, 0, none⟩)] W fun e w' => e = .returned (.bool (!q j)) ∧ Below W.heap.size W w'
  obtain ⟨Q, hQ⟩ : ∃ Q, q j = Q := ⟨_, rfl⟩
  rw [hQ] at hcall ⊢
  have hne : B ≠ W.heap.size := by omega
  clear hQ hp hr
  change Calls Tryz.prog g #[.agg #[c0, c1, c2]] _ _ at hcall
  go_enter Tryz.func188, Tryz.ntmps188
  go_wp2_with (go_at_fn g; refine hcall.mono ?_; rintro e w' ⟨rfl, hb'⟩)
  go_ret
  exact ⟨rfl, ((Below.refl _ _).alloc (Nat.le_refl _) _).trans (hb'.mono (by simp))⟩
set_option maxRecDepth 100000 in
set_option maxHeartbeats 1000000 in
theorem all_glob (la : Option Addr) (c : Nat) (rows : List (List Value)) (q : Nat → Bool) (g : Nat) (eg : ∀ args w, (callFunc g args).run Tryz.prog w = .ok (.enter g args) w) (w : World)
    (hrow : RowAt w 3 (.slice la rows.length c) rows) (hp : PredRow g #[] rows q w) :
    Calls Tryz.prog 116 #[.slice la rows.length c, .func (.func g) #[] #[]] w fun e w' => e = .returned (.bool (decide (rows.length ≤ 4096) && !anyN (fun j => !q j) rows.length)) ∧ Below w.heap.size w w' := by
  have ea : ∀ args w, (callFunc 188 args).run Tryz.prog w = .ok (.enter 188 args) w := enters_of Tryz.func188 (by kernel_rfl) rfl
  have hB1 : Below w.heap.size w (w.alloc (.cells #[.func (.func g) #[] #[]] 183)) := (Below.refl _ _).alloc (Nat.le_refl _) _
  by_cases hle : rows.length ≤ 4096
  · have hcall := cont_glob la c rows (fun j => !q j) 188 #[.pointer (some ⟨w.heap.size, 0, none⟩)] ea (w.alloc (.cells #[.func (.func g) #[] #[]] 183)) (hrow.later hB1)
      (not_glob rows q g eg w.heap.size _ (fun j r hr => by obtain ⟨_, _, _, _, h⟩ := hrow; exact (h j r hr).1) (by simp) (by simp) (hp.rebase hB1))
    obtain ⟨Q, hQ⟩ : ∃ Q, anyN (fun j => !q j) rows.length = Q := ⟨_, rfl⟩
    rw [hQ] at hcall ⊢
    have hd : decide (rows.length ≤ 4096) = true := decide_eq_true hle
    rw [hd]
    clear hQ hp hrow
    go_enter Tryz.func116, Tryz.ntmps116
    go_wp2_with (go_at_call 187; refine hcall.mono ?_; rintro e w' ⟨rfl, hb'⟩)
    go_ret
    exact ⟨rfl, hB1.trans (hb'.mono (by simp))⟩
  · have hd : decide (rows.length ≤ 4096) = false := decide_eq_false hle
    rw [hd]
    clear hp hrow
    go_enter Tryz.func116, Tryz.ntmps116
    go_wp2_with fail
    go_ret
    exact ⟨rfl, hB1⟩
set_option maxRecDepth 100000 in
set_option maxHeartbeats 2000000 in
theorem idx_exp (la : Option Addr) (c : Nat) (rows : List (List Value)) (p : Nat → Bool) (g : Nat) (lb : Array Value) (eg : ∀ args w, (callFunc g args).run Tryz.prog w = .ok (.enter g args) w) (w : World)
    (hrow : RowAt w 3 (.slice la rows.length c) rows) (hp : PredRow g lb rows p w) :
    Calls Tryz.prog 240 #[.slice la rows.length c, .func (.func g) #[] lb] w fun e w' => e = .returned (.int .i64 (idxN p rows.length)) ∧ Below w.heap.size w w' := by
  obtain ⟨la', c', hv, hle, hr⟩ := hrow
  obtain ⟨rfl, rfl⟩ : la = la' ∧ c = c' := by simp only [Value.slice.injEq] at hv; exact ⟨hv.1, hv.2.2⟩
  have HR := Lib.hid hr
  have HP := Lib.hid hp
  clear hr hp hv
  go_enter Tryz.func240, Tryz.ntmps240
  go_wp2_with fail
  go_loopg [5, 8] rows.length (fun gk _ s8 wr => ∃ k : Nat, k ≤ rows.length ∧ rows.length - k ≤ gk ∧ s8 = .int .i64 k ∧ Below w.heap.size w wr ∧ Hid (∀ j, j < k → p j = false))
  case atStart => exact ⟨0, Nat.zero_le _, by omega, rfl, Below.refl _ w, Lib.hid fun j hj => absurd hj (Nat.not_lt_zero _)⟩
  case round =>
    obtain ⟨k, hk, hg, rfl, hB, HA⟩ := hrel
    by_cases hlt : k < rows.length
    · obtain ⟨r, hrk⟩ : ∃ r, rows[k]? = some r := ⟨_, List.getElem?_eq_getElem hlt⟩
      obtain ⟨hlen, b, off, rfl, hb, hcell⟩ := HR.out k r hrk
      obtain ⟨c0, c1, c2, rfl⟩ := three hlen
      have x0 : wr.cell? ⟨b, off + k * 3, none⟩ = some c0 := (hB.cell (p := ⟨b, off + k * 3 + 0, none⟩) hb).trans (hcell 0 _ rfl)
      have x1 : wr.cell? ⟨b, off + k * 3 + 1, none⟩ = some c1 := (hB.cell (p := ⟨b, off + k * 3 + 1, none⟩) hb).trans (hcell 1 _ rfl)
      have x2 : wr.cell? ⟨b, off + k * 3 + 2, none⟩ = some c2 := (hB.cell (p := ⟨b, off + k * 3 + 2, none⟩) hb).trans (hcell 2 _ rfl)
      have hcall := HP.out wr k _ hrk hB
      have hltz : (k : Int) < (rows.length : Int) := by omega
      have HB := Lib.hid hB
      clear hcell hrk hlen hB
      cases hq : p k with
      | true =>
        rw [hq] at hcall
        have HQ := Lib.hid hq
        clear hq
        go_wp2_with (go_at_fn g; refine hcall.mono ?_; rintro e w' ⟨rfl, hb'⟩)
        go_ret
        exact ⟨by rw [idxN_hit hlt HQ.out HA.out]; rfl, HB.out.trans (hb'.mono HB.out.size)⟩
      | false =>
        rw [hq] at hcall
        have HQ := Lib.hid hq
        clear hq
        go_wp2_with (go_at_fn g; refine hcall.mono ?_; rintro e w' ⟨rfl, hb'⟩)
        go_roundg (rows.length - (k + 1))
        case measure => omega
        case rel => exact ⟨k + 1, by omega, by omega, by go_num, HB.out.trans (hb'.mono HB.out.size), Lib.hid fun j hj => by rcases (show j < k ∨ j = k by omega) with h9 | rfl; exact HA.out j h9; exact HQ.out⟩
    · have hltz : ¬ (k : Int) < (rows.length : Int) := by omega
      obtain rfl : k = rows.length := by omega
      have HB := Lib.hid hB
      clear hB
      go_wp2_with fail
      go_ret
      exact ⟨by rw [idxN_miss HA.out]; rfl, HB.out⟩
set_option maxRecDepth 100000 in
theorem cont_exp (la : Option Addr) (c : Nat) (rows : List (List Value)) (p : Nat → Bool) (g : Nat) (lb : Array Value) (eg : ∀ args w, (callFunc g args).run Tryz.prog w = .ok (.enter g args) w) (w : World)
    (hrow : RowAt w 3 (.slice la rows.length c) rows) (hp : PredRow g lb rows p w) :
    Calls Tryz.prog 189 #[.slice la rows.length c, .func (.func g) #[] lb] w fun e w' => e = .returned (.bool (anyN p rows.length)) ∧ Below w.heap.size w w' := by
  rw [anyN_iff]
  have hcall := idx_exp la c rows p g lb eg w hrow hp
  obtain ⟨R, hR⟩ : ∃ R, idxN p rows.length = R := ⟨_, rfl⟩
  rw [hR] at hcall ⊢
  clear hR hp hrow
  go_enter Tryz.func189, Tryz.ntmps189
  go_wp2_with (go_at_call 240; refine hcall.mono ?_; rintro e w' ⟨rfl, hb'⟩)
  go_ret
  exact ⟨rfl, hb'⟩
set_option maxRecDepth 100000 in
set_option maxHeartbeats 1000000 in
theorem not_exp (rows : List (List Value)) (q : Nat → Bool) (g : Nat) (eg : ∀ args w, (callFunc g args).run Tryz.prog w = .ok (.enter g args) w) (B : Nat) (w : World) (hlen : ∀ (j : Nat) (r : List Value), rows[j]? = some r → r.length = 3) (hB : B < w.heap.size) (hc : w.cell? ⟨B, 0, none⟩ = some (.func (.func g) #[] #[])) (hp : PredRow g #[] rows q w) :
    PredRow 190 #[.pointer (some ⟨B, 0, none⟩)] rows (fun j => !q j) w := fun W j r hr hb => by
  have hc' : W.cell? ⟨B, 0, none⟩ = some (.func (.func g) #[] #[]) := (hb.cell (p := ⟨B, 0, none⟩) hB).trans hc
  have hBW : B < W.heap.size := Nat.lt_of_lt_of_le hB hb.size
  obtain ⟨c0, c1, c2, rfl⟩ := three (hlen j r hr)
  have hcall := hp (W.alloc (.cells #[c0, c1, c2] 90)) j _ hr (hb.alloc hb.size _)
  have hBW2 : B < (W.alloc (.cells #[c0, c1, c2] 90)).heap.size := by simp; omega
  show Calls Tryz.prog 190 #[.agg #[c0, c1, c2], .pointer (some ⟨B, 0, none⟩)] W fun e w' => e = .returned (.bool (!q j)) ∧ Below W.heap.size W w'
  obtain ⟨Q, hQ⟩ : ∃ Q, q j = Q := ⟨_, rfl⟩
  rw [hQ] at hcall ⊢
  have hne : B ≠ W.heap.size := by omega
  clear hQ hp hr
  change Calls Tryz.prog g #[.agg #[c0, c1, c2]] _ _ at hcall
  go_enter Tryz.func190, Tryz.ntmps190
  go_wp2_with (go_at_fn g; refine hcall.mono ?_; rintro e w' ⟨rfl, hb'⟩)
  go_ret
  exact ⟨rfl, ((Below.refl _ _).alloc (Nat.le_refl _) _).trans (hb'.mono (by simp))⟩
set_option maxRecDepth 100000 in
set_option maxHeartbeats 1000000 in
theorem all_exp (la : Option Addr) (c : Nat) (rows : List (List Value)) (q : Nat → Bool) (g : Nat) (eg : ∀ args w, (callFunc g args).run Tryz.prog w = .ok (.enter g args) w) (w : World)
    (hrow : RowAt w 3 (.slice la rows.length c) rows) (hp : PredRow g #[] rows q w) :
    Calls Tryz.prog 118 #[.slice la rows.length c, .func (.func g) #[] #[]] w fun e w' => e = .returned (.bool (decide (rows.length ≤ 4096) && !anyN (fun j => !q j) rows.length)) ∧ Below w.heap.size w w' := by
  have ea : ∀ args w, (callFunc 190 args).run Tryz.prog w = .ok (.enter 190 args) w := enters_of Tryz.func190 (by kernel_rfl) rfl
  have hB1 : Below w.heap.size w (w.alloc (.cells #[.func (.func g) #[] #[]] 185)) := (Below.refl _ _).alloc (Nat.le_refl _) _
  by_cases hle : rows.length ≤ 4096
  · have hcall := cont_exp la c rows (fun j => !q j) 190 #[.pointer (some ⟨w.heap.size, 0, none⟩)] ea (w.alloc (.cells #[.func (.func g) #[] #[]] 185)) (hrow.later hB1)
      (not_exp rows q g eg w.heap.size _ (fun j r hr => by obtain ⟨_, _, _, _, h⟩ := hrow; exact (h j r hr).1) (by simp) (by simp) (hp.rebase hB1))
    obtain ⟨Q, hQ⟩ : ∃ Q, anyN (fun j => !q j) rows.length = Q := ⟨_, rfl⟩
    rw [hQ] at hcall ⊢
    have hd : decide (rows.length ≤ 4096) = true := decide_eq_true hle
    rw [hd]
    clear hQ hp hrow
    go_enter Tryz.func118, Tryz.ntmps118
    go_wp2_with (go_at_call 189; refine hcall.mono ?_; rintro e w' ⟨rfl, hb'⟩)
    go_ret
    exact ⟨rfl, hB1.trans (hb'.mono (by simp))⟩
  · have hd : decide (rows.length ≤ 4096) = false := decide_eq_false hle
    rw [hd]
    clear hp hrow
    go_enter Tryz.func118, Tryz.ntmps118
    go_wp2_with fail
    go_ret
    exact ⟨rfl, hB1⟩
set_option maxRecDepth 100000 in
set_option maxHeartbeats 2000000 in
theorem idx_data (la : Option Addr) (c : Nat) (rows : List (List Value)) (p : Nat → Bool) (g : Nat) (lb : Array Value) (eg : ∀ args w, (callFunc g args).run Tryz.prog w = .ok (.enter g args) w) (w : World)
    (hrow : RowAt w 2 (.slice la rows.length c) rows) (hp : PredRow g lb rows p w) :
    Calls Tryz.prog 241 #[.slice la rows.length c, .func (.func g) #[] lb] w fun e w' => e = .returned (.int .i64 (idxN p rows.length)) ∧ Below w.heap.size w w' := by
  obtain ⟨la', c', hv, hle, hr⟩ := hrow
  obtain ⟨rfl, rfl⟩ : la = la' ∧ c = c' := by simp only [Value.slice.injEq] at hv; exact ⟨hv.1, hv.2.2⟩
  have HR := Lib.hid hr
  have HP := Lib.hid hp
  clear hr hp hv
  go_enter Tryz.func241, Tryz.ntmps241
  go_wp2_with fail
  go_loopg [5, 8] rows.length (fun gk _ s8 wr => ∃ k : Nat, k ≤ rows.length ∧ rows.length - k ≤ gk ∧ s8 = .int .i64 k ∧ Below w.heap.size w wr ∧ Hid (∀ j, j < k → p j = false))
  case atStart => exact ⟨0, Nat.zero_le _, by omega, rfl, Below.refl _ w, Lib.hid fun j hj => absurd hj (Nat.not_lt_zero _)⟩
  case round =>
    obtain ⟨k, hk, hg, rfl, hB, HA⟩ := hrel
    by_cases hlt : k < rows.length
    · obtain ⟨r, hrk⟩ : ∃ r, rows[k]? = some r := ⟨_, List.getElem?_eq_getElem hlt⟩
      obtain ⟨hlen, b, off, rfl, hb, hcell⟩ := HR.out k r hrk
      obtain ⟨c0, c1, rfl⟩ := two hlen
      have x0 : wr.cell? ⟨b, off + k * 2, none⟩ = some c0 := (hB.cell (p := ⟨b, off + k * 2 + 0, none⟩) hb).trans (hcell 0 _ rfl)
      have x1 : wr.cell? ⟨b, off + k * 2 + 1, none⟩ = some c1 := (hB.cell (p := ⟨b, off + k * 2 + 1, none⟩) hb).trans (hcell 1 _ rfl)
      have hcall := HP.out wr k _ hrk hB
      have hltz : (k : Int) < (rows.length : Int) := by omega
      have HB := Lib.hid hB
      clear hcell hrk hlen hB
      cases hq : p k with
      | true =>
        rw [hq] at hcall
        have HQ := Lib.hid hq
        clear hq
        go_wp2_with (go_at_fn g; refine hcall.mono ?_; rintro e w' ⟨rfl, hb'⟩)
        go_ret
        exact ⟨by rw [idxN_hit hlt HQ.out HA.out]; rfl, HB.out.trans (hb'.mono HB.out.size)⟩
      | false =>
        rw [hq] at hcall
        have HQ := Lib.hid hq
        clear hq
        go_wp2_with (go_at_fn g; refine hcall.mono ?_; rintro e w' ⟨rfl, hb'⟩)
        go_roundg (rows.length - (k + 1))
        case measure => omega
        case rel => exact ⟨k + 1, by omega, by omega, by go_num, HB.out.trans (hb'.mono HB.out.size), Lib.hid fun j hj => by rcases (show j < k ∨ j = k by omega) with h9 | rfl; exact HA.out j h9; exact HQ.out⟩
    · have hltz : ¬ (k : Int) < (rows.length : Int) := by omega
      obtain rfl : k = rows.length := by omega
      have HB := Lib.hid hB
      clear hB
      go_wp2_with fail
      go_ret
      exact ⟨by rw [idxN_miss HA.out]; rfl, HB.out⟩
set_option maxRecDepth 100000 in
theorem cont_data (la : Option Addr) (c : Nat) (rows : List (List Value)) (p : Nat → Bool) (g : Nat) (lb : Array Value) (eg : ∀ args w, (callFunc g args).run Tryz.prog w = .ok (.enter g args) w) (w : World)
    (hrow : RowAt w 2 (.slice la rows.length c) rows) (hp : PredRow g lb rows p w) :
    Calls Tryz.prog 191 #[.slice la rows.length c, .func (.func g) #[] lb] w fun e w' => e = .returned (.bool (anyN p rows.length)) ∧ Below w.heap.size w w' := by
  rw [anyN_iff]
  have hcall := idx_data la c rows p g lb eg w hrow hp
  obtain ⟨R, hR⟩ : ∃ R, idxN p rows.length = R := ⟨_, rfl⟩
  rw [hR] at hcall ⊢
  clear hR hp hrow
  go_enter Tryz.func191, Tryz.ntmps191
  go_wp2_with (go_at_call 241; refine hcall.mono ?_; rintro e w' ⟨rfl, hb'⟩)
  go_ret
  exact ⟨rfl, hb'⟩
set_option maxRecDepth 100000 in
set_option maxHeartbeats 1000000 in
theorem not_data (rows : List (List Value)) (q : Nat → Bool) (g : Nat) (eg : ∀ args w, (callFunc g args).run Tryz.prog w = .ok (.enter g args) w) (B : Nat) (w : World) (hlen : ∀ (j : Nat) (r : List Value), rows[j]? = some r → r.length = 2) (hB : B < w.heap.size) (hc : w.cell? ⟨B, 0, none⟩ = some (.func (.func g) #[] #[])) (hp : PredRow g #[] rows q w) :
    PredRow 192 #[.pointer (some ⟨B, 0, none⟩)] rows (fun j => !q j) w := fun W j r hr hb => by
  have hc' : W.cell? ⟨B, 0, none⟩ = some (.func (.func g) #[] #[]) := (hb.cell (p := ⟨B, 0, none⟩) hB).trans hc
  have hBW : B < W.heap.size := Nat.lt_of_lt_of_le hB hb.size
  obtain ⟨c0, c1, rfl⟩ := two (hlen j r hr)
  have hcall := hp (W.alloc (.cells #[c0, c1] 92)) j _ hr (hb.alloc hb.size _)
  have hBW2 : B < (W.alloc (.cells #[c0, c1] 92)).heap.size := by simp; omega
  show Calls Tryz.prog 192 #[.agg #[c0, c1], .pointer (some ⟨B, 0, none⟩)] W fun e w' => e = .returned (.bool (!q j)) ∧ Below W.heap.size W w'
  obtain ⟨Q, hQ⟩ : ∃ Q, q j = Q := ⟨_, rfl⟩
  rw [hQ] at hcall ⊢
  have hne : B ≠ W.heap.size := by omega
  clear hQ hp hr
  change Calls Tryz.prog g #[.agg #[c0, c1]] _ _ at hcall
  go_enter Tryz.func192, Tryz.ntmps192
  go_wp2_with (go_at_fn g; refine hcall.mono ?_; rintro e w' ⟨rfl, hb'⟩)
  go_ret
  exact ⟨rfl, ((Below.refl _ _).alloc (Nat.le_refl _) _).trans (hb'.mono (by simp))⟩
set_option maxRecDepth 100000 in
set_option maxHeartbeats 1000000 in
theorem all_data (la : Option Addr) (c : Nat) (rows : List (List Value)) (q : Nat → Bool) (g : Nat) (eg : ∀ args w, (callFunc g args).run Tryz.prog w = .ok (.enter g args) w) (w : World)
    (hrow : RowAt w 2 (.slice la rows.length c) rows) (hp : PredRow g #[] rows q w) :
    Calls Tryz.prog 120 #[.slice la rows.length c, .func (.func g) #[] #[]] w fun e w' => e = .returned (.bool (decide (rows.length ≤ 4096) && !anyN (fun j => !q j) rows.length)) ∧ Below w.heap.size w w' := by
  have ea : ∀ args w, (callFunc 192 args).run Tryz.prog w = .ok (.enter 192 args) w := enters_of Tryz.func192 (by kernel_rfl) rfl
  have hB1 : Below w.heap.size w (w.alloc (.cells #[.func (.func g) #[] #[]] 187)) := (Below.refl _ _).alloc (Nat.le_refl _) _
  by_cases hle : rows.length ≤ 4096
  · have hcall := cont_data la c rows (fun j => !q j) 192 #[.pointer (some ⟨w.heap.size, 0, none⟩)] ea (w.alloc (.cells #[.func (.func g) #[] #[]] 187)) (hrow.later hB1)
      (not_data rows q g eg w.heap.size _ (fun j r hr => by obtain ⟨_, _, _, _, h⟩ := hrow; exact (h j r hr).1) (by simp) (by simp) (hp.rebase hB1))
    obtain ⟨Q, hQ⟩ : ∃ Q, anyN (fun j => !q j) rows.length = Q := ⟨_, rfl⟩
    rw [hQ] at hcall ⊢
    have hd : decide (rows.length ≤ 4096) = true := decide_eq_true hle
    rw [hd]
    clear hQ hp hrow
    go_enter Tryz.func120, Tryz.ntmps120
    go_wp2_with (go_at_call 191; refine hcall.mono ?_; rintro e w' ⟨rfl, hb'⟩)
    go_ret
    exact ⟨rfl, hB1.trans (hb'.mono (by simp))⟩
  · have hd : decide (rows.length ≤ 4096) = false := decide_eq_false hle
    rw [hd]
    clear hp hrow
    go_enter Tryz.func120, Tryz.ntmps120
    go_wp2_with fail
    go_ret
    exact ⟨rfl, hB1⟩
set_option maxRecDepth 100000 in
set_option maxHeartbeats 2000000 in
theorem idx_ins (la : Option Addr) (c : Nat) (rows : List (List Value)) (p : Nat → Bool) (g : Nat) (lb : Array Value) (eg : ∀ args w, (callFunc g args).run Tryz.prog w = .ok (.enter g args) w) (w : World)
    (hrow : RowAt w 4 (.slice la rows.length c) rows) (hp : PredRow g lb rows p w) :
    Calls Tryz.prog 184 #[.slice la rows.length c, .func (.func g) #[] lb] w fun e w' => e = .returned (.int .i64 (idxN p rows.length)) ∧ Below w.heap.size w w' := by
  obtain ⟨la', c', hv, hle, hr⟩ := hrow
  obtain ⟨rfl, rfl⟩ : la = la' ∧ c = c' := by simp only [Value.slice.injEq] at hv; exact ⟨hv.1, hv.2.2⟩
  have HR := Lib.hid hr
  have HP := Lib.hid hp
  clear hr hp hv
  go_enter Tryz.func184, Tryz.ntmps184
  go_wp2_with fail
  go_loopg [5, 8] rows.length (fun gk _ s8 wr => ∃ k : Nat, k ≤ rows.length ∧ rows.length - k ≤ gk ∧ s8 = .int .i64 k ∧ Below w.heap.size w wr ∧ Hid (∀ j, j < k → p j = false))
  case atStart => exact ⟨0, Nat.zero_le _, by omega, rfl, Below.refl _ w, Lib.hid fun j hj => absurd hj (Nat.not_lt_zero _)⟩
  case round =>
    obtain ⟨k, hk, hg, rfl, hB, HA⟩ := hrel
    by_cases hlt : k < rows.length
    · obtain ⟨r, hrk⟩ : ∃ r, rows[k]? = some r := ⟨_, List.getElem?_eq_getElem hlt⟩
      obtain ⟨hlen, b, off, rfl, hb, hcell⟩ := HR.out k r hrk
      obtain ⟨c0, c1, c2, c3, rfl⟩ := four hlen
      have x0 : wr.cell? ⟨b, off + k * 4, none⟩ = some c0 := (hB.cell (p := ⟨b, off + k * 4 + 0, none⟩) hb).trans (hcell 0 _ rfl)
      have x1 : wr.cell? ⟨b, off + k * 4 + 1, none⟩ = some c1 := (hB.cell (p := ⟨b, off + k * 4 + 1, none⟩) hb).trans (hcell 1 _ rfl)
      have x2 : wr.cell? ⟨b, off + k * 4 + 2, none⟩ = some c2 := (hB.cell (p := ⟨b, off + k * 4 + 2, none⟩) hb).trans (hcell 2 _ rfl)
      have x3 : wr.cell? ⟨b, off + k * 4 + 3, none⟩ = some c3 := (hB.cell (p := ⟨b, off + k * 4 + 3, none⟩) hb).trans (hcell 3 _ rfl)
      have hcall := HP.out wr k _ hrk hB
      have hltz : (k : Int) < (rows.length : Int) := by omega
      have HB := Lib.hid hB
      clear hcell hrk hlen hB
      cases hq : p k with
      | true =>
        rw [hq] at hcall
        have HQ := Lib.hid hq
        clear hq
        go_wp2_with (go_at_fn g; refine hcall.mono ?_; rintro e w' ⟨rfl, hb'⟩)
        go_ret
        exact ⟨by rw [idxN_hit hlt HQ.out HA.out]; rfl, HB.out.trans (hb'.mono HB.out.size)⟩
      | false =>
        rw [hq] at hcall
        have HQ := Lib.hid hq
        clear hq
        go_wp2_with (go_at_fn g; refine hcall.mono ?_; rintro e w' ⟨rfl, hb'⟩)
        go_roundg (rows.length - (k + 1))
        case measure => omega
        case rel => exact ⟨k + 1, by omega, by omega, by go_num, HB.out.trans (hb'.mono HB.out.size), Lib.hid fun j hj => by rcases (show j < k ∨ j = k by omega) with h9 | rfl; exact HA.out j h9; exact HQ.out⟩
    · have hltz : ¬ (k : Int) < (rows.length : Int) := by omega
      obtain rfl : k = rows.length := by omega
      have HB := Lib.hid hB
      clear hB
      go_wp2_with fail
      go_ret
      exact ⟨by rw [idxN_miss HA.out]; rfl, HB.out⟩
set_option maxRecDepth 100000 in
theorem cont_ins (la : Option Addr) (c : Nat) (rows : List (List Value)) (p : Nat → Bool) (g : Nat) (lb : Array Value) (eg : ∀ args w, (callFunc g args).run Tryz.prog w = .ok (.enter g args) w) (w : World)
    (hrow : RowAt w 4 (.slice la rows.length c) rows) (hp : PredRow g lb rows p w) :
    Calls Tryz.prog 112 #[.slice la rows.length c, .func (.func g) #[] lb] w fun e w' => e = .returned (.bool (anyN p rows.length)) ∧ Below w.heap.size w w' := by
  rw [anyN_iff]
  have hcall := idx_ins la c rows p g lb eg w hrow hp
  obtain ⟨R, hR⟩ : ∃ R, idxN p rows.length = R := ⟨_, rfl⟩
  rw [hR] at hcall ⊢
  clear hR hp hrow
  go_enter Tryz.func112, Tryz.ntmps112
  go_wp2_with (go_at_call 184; refine hcall.mono ?_; rintro e w' ⟨rfl, hb'⟩)
  go_ret
  exact ⟨rfl, hb'⟩
end Go.Proofs.YtmfdabkmijbffaaGreatDoor.Mod
