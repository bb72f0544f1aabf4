/-
  What the reference's Of and Code of chapter 3 answer. No condition beyond what each theorem names.
-/
import Derived.Test.YtlbgbpgjccbbjaaDoorOpRefD
namespace Go.Proofs.YtlbgbpgjccbbjaaDoor.Op
open Go.RowKit Go.Maps
set_option linter.unusedVariables false
def RelFi (c : Int) (i : Value) : Prop := ∃ k : Nat, k ≤ 103 ∧ i = .int .i64 k ∧ ∀ j x, j < k → refL[j]? = some x → (x.1 == c) = false
theorem ref_len : refL.length = 103 := by kernel_rfl
theorem ref_cells {w : World} {g : Nat} (hcs : ∀ j u, (rowsV refL)[j]? = some u → w.cell? ((⟨g, 0, none⟩ : Addr).add j) = some u) {k : Nat} {e : Int × Info} (he : refL[k]? = some e) (j : Nat) (hj : j < 5) (u : Value) (hu : (rowV e)[j]? = some u) : w.cell? ⟨g, k * 5 + j, none⟩ = some u := by
  have h := hcs (5 * k + j) u (by rw [rowsV_get refL k j e he hj]; exact hu)
  rw [Addr.add_lit, Nat.zero_add] at h
  rw [Nat.mul_comm]
  exact h
set_option maxRecDepth 100000 in
set_option maxHeartbeats 1000000 in
theorem rof_any (c : Int) (w : World) (nm p r : ByteArray) (sh : Int) (b : Bool) (hi : (opInfo c).getD zeroI = ⟨nm, sh, p, r⟩) (hb : (opInfo c).isSome = b) :
    Calls Tryd.prog 15 #[.int .i64 c] w fun e w' => e = .returned (.tuple #[.agg #[.string nm, .int .i64 sh, .string p, .string r], .bool b]) ∧ Below w.heap.size w w' := by
  have HI := Lib.hid hi
  have HB := Lib.hid hb
  clear hi hb
  have B0 : Below w.heap.size w (w.alloc (.cells #[.string ⟨#[]⟩, .int .i64 0, .string ⟨#[]⟩, .string ⟨#[]⟩] 27)) := (Below.refl _ _).alloc (Nat.le_refl _) _
  go_enter Tryd.func15, Tryd.ntmps15
  go_wp2_with fail
  refine (rall_any _).mono ?_
  rintro e w1 ⟨v, rfl, ho, hb⟩
  have B1 := B0.trans (hb.mono B0.size)
  rw [ref_len] at ho
  obtain ⟨g, cap, rfl, hcs⟩ := row_slice ho (by decide)
  have HCS := Lib.hid hcs
  have r0 : w1.cell? ⟨w.heap.size, 0, none⟩ = some (.string ⟨#[]⟩) := cell_later hb (by simp)
  have r1 : w1.cell? ⟨w.heap.size, 1, none⟩ = some (.int .i64 0) := cell_later hb (by simp)
  have r2 : w1.cell? ⟨w.heap.size, 2, none⟩ = some (.string ⟨#[]⟩) := cell_later hb (by simp)
  have r3 : w1.cell? ⟨w.heap.size, 3, none⟩ = some (.string ⟨#[]⟩) := cell_later hb (by simp)
  have fz : ∀ j, w1.frozen? ⟨w.heap.size, j, none⟩ = false := fun j => (hb.frozen (by simp)).trans (World.frozen?_alloc_at _ _ _ _ rfl)
  clear ho hcs hb B0
  go_wp2_with fail
  go_loop [5] (fun i => RelFi c i) (fun i => 103 - (intOf i).toNat)
  case atStart => exact ⟨0, Nat.zero_le _, rfl, fun j x hj => by omega⟩
  case round =>
    obtain ⟨k, hk, rfl, hpre⟩ := hrel
    have HP := Lib.hid hpre
    clear hpre
    by_cases hlt : k < 103
    · obtain ⟨⟨cd, inm, ish, ipa, ire⟩, he⟩ : ∃ e, refL[k]? = some e := ⟨_, List.getElem?_eq_getElem (show k < refL.length by rw [ref_len]; exact hlt)⟩
      have c0 : w1.cell? ⟨g, k * 5, none⟩ = some (.int .i64 cd) := ref_cells HCS.out he 0 (by decide) _ rfl
      have c1 : w1.cell? ⟨g, k * 5 + 1, none⟩ = some (.string inm) := ref_cells HCS.out he 1 (by decide) _ rfl
      have c2 : w1.cell? ⟨g, k * 5 + 2, none⟩ = some (.int .i64 ish) := ref_cells HCS.out he 2 (by decide) _ rfl
      have c3 : w1.cell? ⟨g, k * 5 + 3, none⟩ = some (.string ipa) := ref_cells HCS.out he 3 (by decide) _ rfl
      have c4 : w1.cell? ⟨g, k * 5 + 4, none⟩ = some (.string ire) := ref_cells HCS.out he 4 (by decide) _ rfl
      have hd : decide ((k : Int) < 103) = true := decide_eq_true (by omega)
      have HE := Lib.hid he
      clear he
      cases hq : (cd == c)
      · have HQ := Lib.hid hq
        go_wp2_with fail
        go_round
        case rel => exact ⟨k + 1, by omega, by go_num, fun j x hj hx => by rcases (show j < k ∨ j = k by omega) with h9 | rfl; exact HP.out j x h9 hx; rw [HE.out] at hx; cases hx; exact HQ.out⟩
        case measure => simp [intOf]; omega
      · have hf := find_at (fun e => e.1 == c) _ refL k HE.out HP.out hq
        have h1 : opInfo c = some ⟨inm, ish, ipa, ire⟩ := by rw [← ref_find, hf]; rfl
        have h2 := HI.out
        have h3 := HB.out
        rw [h1] at h2 h3
        obtain ⟨rfl, rfl, rfl, rfl⟩ : inm = nm ∧ ish = sh ∧ ipa = p ∧ ire = r := by
          have h4 : (⟨inm, ish, ipa, ire⟩ : Info) = ⟨nm, sh, p, r⟩ := h2
          cases h4
          exact ⟨rfl, rfl, rfl, rfl⟩
        obtain rfl : b = true := h3.symm
        clear h1 h2 h3 hf
        go_wp2_with fail
        (try simp only [Exit.inBlock, Exit.then])
        refine bodyPost_ret (v := .tuple #[.agg #[.string inm, .int .i64 ish, .string ipa, .string ire], .bool true]) (by simp [results, Tryd.results15, go_sem, r0, r1, r2, r3]) rfl ?_
        exact ⟨rfl, (((B1.setCell (Nat.le_refl _) _).setCell (Nat.le_refl _) _).setCell (Nat.le_refl _) _).setCell (Nat.le_refl _) _⟩
    · obtain rfl : k = 103 := by omega
      have hno := find_not (fun e => e.1 == c) refL (fun j x hj hx => HP.out j x (by rw [ref_len] at hj; exact hj) hx)
      have h1 : opInfo c = none := by rw [← ref_find, hno]; rfl
      have h2 := HI.out
      have h3 := HB.out
      rw [h1] at h2 h3
      obtain ⟨rfl, rfl, rfl, rfl⟩ : nm = ⟨#[]⟩ ∧ sh = 0 ∧ p = ⟨#[]⟩ ∧ r = ⟨#[]⟩ := by
        have h4 : zeroI = ⟨nm, sh, p, r⟩ := h2
        cases h4
        exact ⟨rfl, rfl, rfl, rfl⟩
      obtain rfl : b = false := h3.symm
      clear h1 h2 h3 hno
      have hd : decide (((103 : Nat) : Int) < 103) = false := by decide
      go_wp2_with fail
      (try simp only [Exit.inBlock, Exit.then])
      refine bodyPost_ret (v := .tuple #[.agg #[.string ⟨#[]⟩, .int .i64 0, .string ⟨#[]⟩, .string ⟨#[]⟩], .bool false]) (by simp [results, Tryd.results15, go_sem, r0, r1, r2, r3]) rfl ?_
      exact ⟨rfl, (((B1.setCell (Nat.le_refl _) _).setCell (Nat.le_refl _) _).setCell (Nat.le_refl _) _).setCell (Nat.le_refl _) _⟩
def RelGi (nm : List UInt8) (i : Value) : Prop := ∃ k : Nat, k ≤ 103 ∧ i = .int .i64 k ∧ ∀ j x, j < k → refL[j]? = some x → (x.2.name.data.toList == nm) = false
set_option maxRecDepth 100000 in
set_option maxHeartbeats 1000000 in
theorem rcode_any (nm : ByteArray) (w : World) (v : Int) (b : Bool) (hv : (codeOf nm.data.toList).getD 0 = v) (hb : (codeOf nm.data.toList).isSome = b) :
    Calls Tryd.prog 17 #[.string nm] w fun e w' => e = .returned (.tuple #[.int .i64 v, .bool b]) ∧ Below w.heap.size w w' := by
  have HI := Lib.hid hv
  have HB := Lib.hid hb
  clear hv hb
  go_enter Tryd.func17, Tryd.ntmps17
  go_wp2_with fail
  refine (rall_any _).mono ?_
  rintro e w1 ⟨vv, rfl, ho, B1⟩
  rw [ref_len] at ho
  obtain ⟨g, cap, rfl, hcs⟩ := row_slice ho (by decide)
  have HCS := Lib.hid hcs
  clear ho hcs
  go_wp2_with fail
  go_loop [5] (fun i => RelGi nm.data.toList i) (fun i => 103 - (intOf i).toNat)
  case atStart => exact ⟨0, Nat.zero_le _, rfl, fun j x hj => by omega⟩
  case round =>
    obtain ⟨k, hk, rfl, hpre⟩ := hrel
    have HP := Lib.hid hpre
    clear hpre
    by_cases hlt : k < 103
    · obtain ⟨⟨cd, inm, ish, ipa, ire⟩, he⟩ : ∃ e, refL[k]? = some e := ⟨_, List.getElem?_eq_getElem (show k < refL.length by rw [ref_len]; exact hlt)⟩
      have c0 : w1.cell? ⟨g, k * 5, none⟩ = some (.int .i64 cd) := ref_cells HCS.out he 0 (by decide) _ rfl
      have c1 : w1.cell? ⟨g, k * 5 + 1, none⟩ = some (.string inm) := ref_cells HCS.out he 1 (by decide) _ rfl
      have hd : decide ((k : Int) < 103) = true := decide_eq_true (by omega)
      have HE := Lib.hid he
      clear he
      by_cases hq : inm.data.toList = nm.data.toList
      · have hf := find_at (fun e => e.2.name.data.toList == nm.data.toList) _ refL k HE.out HP.out (by simp [hq])
        have h1 : codeOf nm.data.toList = some cd := by rw [← ref_find_name, hf]; rfl
        have h2 := HI.out
        have h3 := HB.out
        rw [h1] at h2 h3
        obtain rfl : cd = v := h2
        obtain rfl : b = true := h3.symm
        have hqq := eqT hq
        clear h1 h3 hf hq
        go_wp2_with fail
        go_ret2
        exact ⟨rfl, B1⟩
      · have hqq := eqF hq
        have HQ := Lib.hid hq
        clear hq
        go_wp2_with fail
        go_round
        case rel => exact ⟨k + 1, by omega, by go_num, fun j x hj hx => by rcases (show j < k ∨ j = k by omega) with h9 | rfl; exact HP.out j x h9 hx; rw [HE.out] at hx; cases hx; exact beq_eq_false_iff_ne.2 HQ.out⟩
        case measure => simp [intOf]; omega
    · obtain rfl : k = 103 := by omega
      have hno := find_not (fun e => e.2.name.data.toList == nm.data.toList) refL (fun j x hj hx => HP.out j x (by rw [ref_len] at hj; exact hj) hx)
      have h1 : codeOf nm.data.toList = none := by rw [← ref_find_name, hno]; rfl
      have h2 := HI.out
      have h3 := HB.out
      rw [h1] at h2 h3
      obtain rfl : v = 0 := h2.symm
      obtain rfl : b = false := h3.symm
      clear h1 h2 h3 hno
      have hd : decide (((103 : Nat) : Int) < 103) = false := by decide
      go_wp2_with fail
      go_ret2
      exact ⟨rfl, B1⟩
end Go.Proofs.YtlbgbpgjccbbjaaDoor.Op
